/- vm, the front end: the reference's compiler: statements' codes; lists of them. vm, the front end: the reference's Masks. vm, the front end: the reference's Compile. vm, the front end: Taken. vm, the front end: the law's program. -/
import Derived.Test.YtocbddajakbemaaGreatMP
import Derived.Test.YtocbddajakbemaaGreatMR
import Derived.Deep.AppendLies
import Derived.Deep.RegionLaw
import Derived.Deep.RegionHeld3
set_option linter.unusedVariables false
set_option linter.unusedSimpArgs false
set_option linter.unusedSimpArgs false
namespace Go.Proofs.YtocbddajakbemaaGreat
section
open Go.RowKit
def argsM (ns : List ByteArray) : Ex → Option (List (List In))
  | .l _ _ _ => some []
  | .u _ _ x => match exprM ns x with
    | none => none
    | some a => some [a]
  | .b _ x y => match exprM ns x, exprM ns y with
    | some a, some b => some [a, b]
    | _, _ => none
def flatsB (cs : List (List In)) : Bool := decide (cs.flatten.length ≤ 400) && cs.all fun c => decide (c.length ≤ 300)
def stm1M (ns : List ByteArray) (s : S1) : Option (List In × Nat) :=
  match argsM ns s.args with
  | none => none
  | some cs => if flatsB cs = true then match s with
    | .le op nm _ => if op = 1 then (if findM ns nm < 0 then some (joinM cs.flatten [(3, ((ns.length : Nat) : Int))], 0) else none) else (if findM ns nm < 0 then none else some (joinM cs.flatten [(3, findM ns nm)], 0))
    | .pu n _ _ => some (joinM cs.flatten [(5, (n : Int))], 0)
    | .en _ => some ([(15, 0)], 0)
  else none
def F1 (ns : List ByteArray) : S2 → Option (List In × Nat)
  | .si s => stm1M ns s
  | .wh _ _ => none
def F2 (ns : List ByteArray) : S2 → Option (List In × Nat)
  | .si s => stm1M ns s
  | .wh x b => match argsM ns (.u 0 0 x) with
    | none => none
    | some cs => if flatsB cs = true ∧ b.length ≤ 1000 ∧ ns ≠ [] then match foldL F1 (b.map .si) (ns, ns.length, []) with
      | none => none
      | some res => if okC res.2.2 = true then some (whileM cs.flatten res.2.2, res.2.1) else none
    else none
theorem exs_of {ns : List ByteArray} {NA : Option Addr} {nc : Nat} (hl : ns.length ≤ 31) {e : Ex} {cs : List (List In)} (h : argsM ns e = some cs) (hb : flatsB cs = true) (hf : ∀ op n x, e = .u op n x → fineM 40 x = true) (hg : ∀ op x y, e = .b op x y → fineM 40 x = true ∧ fineM 40 y = true) {w : World} {A : Option Addr} {cp : Nat} (hx : ExAt w (fun q => q < w.heap.size) e A cp) (hn : StrsAt w NA ns) :
    EXs w A NA ns.length nc cs ∧ Flats cs ∧ cs.length = e.many := by
  unfold flatsB at hb
  simp only [Bool.and_eq_true, decide_eq_true_eq] at hb
  have hc3 : ∀ c, c ∈ cs → c.length ≤ 300 := fun c hc => by simpa using List.all_eq_true.1 hb.2 c hc
  rcases e with ⟨op, n, s⟩ | ⟨op, n, x⟩ | ⟨op, x, y⟩
  · injection h with h
    subst h
    exact ⟨fun k c hk => by simp at hk, ⟨fun c hc => (by cases hc), hb.1⟩, rfl⟩
  · rw [argsM] at h
    rcases hxm : exprM ns x with _ | a
    · rw [hxm] at h; cases h
    rw [hxm] at h
    injection h with h
    subst h
    have hfl := exprM_flat ns x a hxm
    have ha := hc3 a (by simp)
    obtain ⟨b, A1, c1, rfl, -, hc, hx⟩ := hx
    refine ⟨fun k c hk => ?_, ⟨fun c hc => ?_, hb.1⟩, rfl⟩
    · rcases k with _ | k
      · have e : a = c := by simpa using hk
        subst e
        exact ⟨b, x.op, x.num, x.name, A1, x.many, c1, rfl, ⟨by rw [Nat.zero_mul]; exact hc.c0, by rw [Nat.zero_mul]; exact hc.c1, by rw [Nat.zero_mul]; exact hc.c2, by rw [Nat.zero_mul]; exact hc.c3⟩,
          fun W hW => expr_ok ns NA nc (by omega) x a hxm 40 (hf _ _ _ rfl) (by omega) W A1 c1 (hx.below hW rfl) (hn.below hW rfl)⟩
      · simp at hk
    · simp only [List.mem_singleton] at hc
      subst hc
      exact hfl.1
  · rw [argsM] at h
    rcases hxm : exprM ns x with _ | a
    · rw [hxm] at h; cases h
    rcases hym : exprM ns y with _ | a2
    · rw [hxm, hym] at h; cases h
    rw [hxm, hym] at h
    injection h with h
    subst h
    have hfl := exprM_flat ns x a hxm
    have hfl2 := exprM_flat ns y a2 hym
    have ha := hc3 a (by simp)
    have ha2 := hc3 a2 (by simp)
    obtain ⟨b, A1, c1, A2, c2, rfl, -, hc, hd, hx, hy⟩ := hx
    refine ⟨fun k c hk => ?_, ⟨fun c hc => ?_, hb.1⟩, rfl⟩
    · rcases k with _ | _ | k
      · have e : a = c := by simpa using hk
        subst e
        exact ⟨b, x.op, x.num, x.name, A1, x.many, c1, rfl, ⟨by rw [Nat.zero_mul]; exact hc.c0, by rw [Nat.zero_mul]; exact hc.c1, by rw [Nat.zero_mul]; exact hc.c2, by rw [Nat.zero_mul]; exact hc.c3⟩,
          fun W hW => expr_ok ns NA nc (by omega) x a hxm 40 (hg _ _ _ rfl).1 (by omega) W A1 c1 (hx.below hW rfl) (hn.below hW rfl)⟩
      · have e : a2 = c := by simpa using hk
        subst e
        exact ⟨b, y.op, y.num, y.name, A2, y.many, c2, rfl, ⟨hd.c0, hd.c1, hd.c2, hd.c3⟩,
          fun W hW => expr_ok ns NA nc (by omega) y a2 hym 40 (hg _ _ _ rfl).2 (by omega) W A2 c2 (hy.below hW rfl) (hn.below hW rfl)⟩
      · simp at hk
    · simp only [List.mem_cons, List.not_mem_nil, or_false] at hc
      rcases hc with rfl | rfl
      · exact hfl.1
      · exact hfl2.1
theorem stm1_ok (ns : List ByteArray) (NA : Option Addr) (nc : Nat) (hl : ns.length ≤ 31) (s : S1) (hg : goodM (.si s) = true) (c : List In) (m : Nat) (h : stm1M ns s = some (c, m)) (w : World) (A BA : Option Addr) (cp bc : Nat) (hx : ExAt w (fun q => q < w.heap.size) s.args A cp) (hn : StrsAt w NA ns) :
    Calls Tryz.prog 66 #[.agg #[.int .u8 (s.op : Nat), .int .i64 s.num, .string s.name, .slice A s.args.many cp, .slice BA 0 bc, .slice none 0 0], .slice NA ns.length nc] w (ResL w c m) := by
  unfold stm1M at h
  rcases ha : argsM ns s.args with _ | cs
  · rw [ha] at h; cases h
  rw [ha] at h
  simp only at h
  by_cases hb : flatsB cs = true
  · rw [if_pos hb] at h
    have hf : ∀ op n x, s.args = .u op n x → fineM 40 x = true := by
      intro op n x e
      rcases s with ⟨o, nm, y⟩ | ⟨k, i, y⟩ | ⟨o⟩
      · simp only [S1.args, Ex.u.injEq] at e
        simp only [goodM, Bool.and_eq_true] at hg
        rw [← e.2.2]; exact hg.2
      · simp [S1.args] at e
      · simp [S1.args] at e
    have hgb : ∀ op x y, s.args = .b op x y → fineM 40 x = true ∧ fineM 40 y = true := by
      intro op x y e
      rcases s with ⟨o, nm, z⟩ | ⟨k, i, z⟩ | ⟨o⟩
      · simp [S1.args] at e
      · simp only [S1.args, Ex.b.injEq] at e
        simp only [goodM, Bool.and_eq_true] at hg
        rw [← e.2.1, ← e.2.2]; exact ⟨hg.1.2, hg.2⟩
      · simp [S1.args] at e
    obtain ⟨hE, hF, hm⟩ := exs_of (nc := nc) hl ha hb hf hgb hx hn
    have h500 : cs.length ≤ 500 := by
      rw [hm]
      rcases s with ⟨o, nm, z⟩ | ⟨k, i, z⟩ | ⟨o⟩ <;> simp [S1.args, Ex.many]
    rw [← hm]
    rcases s with ⟨o, nm, z⟩ | ⟨k, i, z⟩ | ⟨o⟩
    · simp only [goodM, Bool.and_eq_true, Bool.or_eq_true, beq_iff_eq] at hg
      simp only at h
      by_cases h1 : o = 1
      · subst h1
        rw [if_pos rfl] at h
        by_cases hlt : findM ns nm < 0
        · rw [if_pos hlt] at h
          injection h with h
          injection h with h1 h2
          subst h1 h2
          exact stm_1 0 nm cs A BA NA cp 0 bc nc ns hlt hF h500 w hn hl hE
        · rw [if_neg hlt] at h; cases h
      · have h2 : o = 2 := by omega
        subst h2
        rw [if_neg h1] at h
        by_cases hlt : findM ns nm < 0
        · rw [if_pos hlt] at h; cases h
        · rw [if_neg hlt] at h
          injection h with h
          injection h with h1 h2
          subst h1 h2
          exact stm_2 0 nm cs A BA NA cp 0 bc nc ns hlt hF h500 w hn hl hE
    · injection h with h
      injection h with h1 h2
      subst h1 h2
      exact stm_3 (k : Nat) ⟨#[]⟩ cs A BA NA cp 0 bc nc ns hF h500 w hn hl hE
    · simp only [goodM, beq_iff_eq] at hg
      subst hg
      injection h with h
      injection h with h1 h2
      subst h1 h2
      exact stm_7 0 ⟨#[]⟩ cs A BA NA cp 0 bc nc ns hF h500 w hn hl hE
  · rw [if_neg hb] at h; cases h
theorem ls_si {w : World} {s : S1} {A BA' : Option Addr} {cp bb b o : Nat} (hg : goodM (.si s) = true) (hc : StC w b o (.si s) A cp BA' bb) (hx : ExAt w (fun q => q < w.heap.size) s.args A cp) :
    ∀ W, Below w.heap.size w W → ∀ ns NA nc c m, stm1M ns s = some (c, m) → ns.length ≤ 31 → StrsAt W NA ns →
    Calls Tryz.prog 66 #[.agg #[.int .u8 (s.op : Nat), .int .i64 s.num, .string s.name, .slice A s.args.many cp, .slice BA' 0 bb, .slice none 0 0], .slice NA ns.length nc] W (ResL W c m) :=
  fun W hW ns NA nc c m h hl hn => stm1_ok ns NA nc hl s hg c m h W A BA' cp bb (hx.below hW rfl) hn
theorem ls1 {w : World} {l : List S1} {BA : Option Addr} (hg : l.all (fun t => goodM (.si t)) = true) (h : Sts0 w (fun q => q < w.heap.size) l BA) : LSs w BA (l.map .si) F1 := by
  intro j s hj
  rw [List.getElem?_map] at hj
  rcases hx : l[j]? with _ | s1
  · rw [hx] at hj; cases hj
  rw [hx] at hj
  injection hj with hj
  subst hj
  obtain ⟨g, A, cp, BA', bc, e, h1, h2, h3⟩ := h j s1 hx
  exact ⟨g, A, cp, BA', bc, e, h2, ls_si (List.all_eq_true.1 hg s1 (List.mem_of_getElem? hx)) h2 h3⟩
theorem ls2 {w : World} {l : List S2} {BA : Option Addr} (hg : goodL l = true) (h : Sts w (fun q => q < w.heap.size) l BA) : LSs w BA l F2 := by
  intro j s hj
  obtain ⟨g, A, cp, BA', bc, e, h1, h2, h3, h4⟩ := h j s hj
  unfold goodL at hg
  simp only [Bool.and_eq_true, decide_eq_true_eq] at hg
  have hs := List.all_eq_true.1 hg.2 s (List.mem_of_getElem? hj)
  simp only [Bool.and_eq_true, decide_eq_true_eq] at hs
  refine ⟨g, A, cp, BA', bc, e, h2, ?_⟩
  rcases s with s | ⟨x, bd⟩
  · exact ls_si hs.1.1 h2 h3
  · intro W hW ns NA nc c m hF hl hn
    rw [F2] at hF
    rcases ha : argsM ns (.u 0 0 x) with _ | cs
    · rw [ha] at hF; cases hF
    rw [ha] at hF
    simp only at hF
    by_cases hb : flatsB cs = true ∧ bd.length ≤ 1000 ∧ ns ≠ []
    · rw [if_pos hb] at hF
      rcases hr : foldL F1 (bd.map .si) (ns, ns.length, []) with _ | res
      · rw [hr] at hF; cases hF
      rw [hr] at hF
      simp only at hF
      by_cases hok : okC res.2.2 = true
      · rw [if_pos hok] at hF
        injection hF with hF
        injection hF with e1 e2
        subst e1 e2
        have hxW : ExAt W (fun q => q < W.heap.size) (.u 0 0 x) A cp := h3.below hW rfl
        obtain ⟨hE, hFl, hm⟩ := exs_of (nc := nc) hl ha hb.1 (fun op n y e => by injection e with _ _ e; rw [← e]; exact hs.1.1) (fun op y z e => by cases e) hxW hn
        have hm1 : cs.length = 1 := hm
        have LS : ∀ W', Below W.heap.size W W' → Calls Tryz.prog 39 #[.slice BA' bd.length bc, .slice NA ns.length nc] W' (ResL W' res.2.2 res.2.1) := by
          intro W' hW'
          have := list_ok F1 (bd.map .si) BA' bc ns NA nc res hr (by rw [List.length_map]; exact hb.2.1) (fun e => absurd e hb.2.2) W' (hn.below hW' rfl) (ls1 hs.2 ((h4.below hW rfl).below hW' rfl))
          rw [List.length_map] at this
          exact this
        have := stm_5 0 ⟨#[]⟩ cs A BA' NA cp bd.length bc nc ns res.2.2 res.2.1 W ⟨LS, hok⟩ hFl (by omega) hn hl hE
        rw [hm1] at this
        exact this
      · rw [if_neg hok] at hF; cases hF
    · rw [if_neg hb] at hF; cases hF
def codeOf (t : ByteArray) : Option LSt := ((lexM t (t.size + 1) 0 []).bind fun l => pP l 40 40 0 []).bind fun b => if goodL b = true then foldL F2 b ([], 0, []) else none
def prog0 : List In := [(1, 3), (3, 0), (2, 0), (12, 12), (1, 0), (2, 0), (5, 7), (2, 0), (1, 1), (9, 14), (3, 0), (11, 2)]
def prog1 : List In := [(1, 0), (1, 1), (5, 7), (15, 0)]
def prog2 : List In := [(1, 1), (1, 1), (4, 2), (1, 2), (9, 10), (7, 0), (9, 13), (5, 7)]
theorem code0 : (codeOf text0).map (fun r => r.2) = some (1, prog0) := by decide +kernel
theorem code1 : (codeOf text1).map (fun r => r.2) = some (0, prog1) := by decide +kernel
theorem code2 : (codeOf text2).map (fun r => r.2) = some (0, prog2) := by decide +kernel
end
end Go.Proofs.YtocbddajakbemaaGreat
namespace Go.Proofs.YtocbddajakbemaaGreat
section
open Go.RowKit
def orI (r : Int) (k : Nat) : Int := bits .or .u32 r (2 ^ k % 4294967296)
def mStep (k : Nat) (s : Int × Int) (x : In) : Int × Int := (if x.1 = 4 ∧ x.2 = (k : Int) then orI s.1 k else s.1, if x.1 = 5 ∧ x.2 = (k : Int) then orI s.2 k else s.2)
def mRow (code : List In) (k : Nat) (s : Int × Int) : Int × Int := code.foldl (mStep k) s
def mAll (code : List In) : Nat → Int × Int
  | 0 => (0, 0)
  | k + 1 => mRow code (k + 1) (mAll code k)
theorem mask0 : mAll prog0 31 = (0, 128) := by decide +kernel
theorem mask1 : mAll prog1 31 = (0, 128) := by decide +kernel
theorem mask2 : mAll prog2 31 = (4, 128) := by decide +kernel
theorem foldl_take {k : Nat} {code : List In} {i : Nat} {x : In} (h : code[i]? = some x) (s : Int × Int) : (code.take (i + 1)).foldl (mStep k) s = mStep k ((code.take i).foldl (mStep k) s) x := by
  rw [take_more h, List.foldl_append]; rfl
set_option maxRecDepth 100000 in
set_option maxHeartbeats 4000000 in
theorem RMasks_ok (v : Value) (code : List In) (hl : code.length ≤ 1000) (w : World) (hv : InsAt w v code) :
    Calls Tryz.prog 40 #[v] w fun e w' => e = .returned (.tuple #[.int .u32 (mAll code 31).1, .int .u32 (mAll code 31).2]) ∧ w = w' := by
  obtain ⟨A, cc, ev⟩ : ∃ A c, v = .slice A code.length c := by
    rcases hv with ⟨rfl, rfl⟩ | ⟨q, cap, rfl, -⟩
    · exact ⟨none, 0, rfl⟩
    · exact ⟨_, cap, rfl⟩
  obtain ⟨n, en⟩ : ∃ n, n = code.length := ⟨_, rfl⟩
  rw [← en] at ev
  have H := Lib.hid (And.intro hv (And.intro hl (And.intro en ev)))
  clear hv hl en
  subst ev
  go_enter Tryz.func40, Tryz.ntmps40
  go_wp2_with fail
  go_loopg [4, 5, 6] 31 (fun gh rv wv kv wr => ∃ k : Nat, gh + k = 31 ∧ rv = .int .u32 (mAll code k).1 ∧ wv = .int .u32 (mAll code k).2 ∧ kv = .int .i64 ((k : Int) + 1) ∧ w = wr)
  case atStart => exact ⟨0, rfl, rfl, rfl, rfl, rfl⟩
  case round =>
  obtain ⟨k, hk, rfl, rfl, rfl, rfl⟩ := hrel
  rcases gk with _ | go
  · obtain rfl : k = 31 := by omega
    clear hk
    go_wp2_with fail
    go_ret2
    exact ⟨rfl, rfl⟩
  have k0 : (0 : Int) ≤ (k : Int) := by omega
  have k1 : (k : Int) + 1 < 32 := by omega
  have u1 : wrap64 ((k : Int) + 1 + 1) = (k : Int) + 1 + 1 := by unfold wrap64; omega
  have HK := Lib.hid hk
  clear hk
  go_wp2_with fail
  go_loopg [4, 5, 7] n (fun gh rv wv iv wr => ∃ i : Nat, gh + i = n ∧ rv = .int .u32 ((code.take i).foldl (mStep (k + 1)) (mAll code k)).1 ∧ wv = .int .u32 ((code.take i).foldl (mStep (k + 1)) (mAll code k)).2 ∧ iv = .int .i64 (i : Nat) ∧ w = wr)
  case atStart => exact ⟨0, rfl, rfl, rfl, rfl, rfl⟩
  case round =>
  obtain ⟨i, hi, rfl, rfl, rfl, rfl⟩ := hrel
  rcases gk with _ | gi
  · have hin : i = n := by omega
    have ht : code.take i = code := List.take_of_length_le (by have := H.out.2.2.1; omega)
    rw [ht]
    have HT := Lib.hid hi
    have i2 : decide ((i : Int) < (n : Int)) = false := decide_eq_false (by omega)
    clear hi ht
    subst hin
    go_wp2_with fail
    go_roundg go
    case measure => omega
    case rel => exact ⟨k + 1, by have := HK.out; omega, rfl, rfl, by go_num, rfl⟩
  · obtain ⟨⟨op, a⟩, hx⟩ : ∃ x, code[i]? = some x := ⟨_, List.getElem?_eq_getElem (by have := H.out.2.2.1; omega)⟩
    have hst := foldl_take (k := k + 1) hx (mAll code k)
    obtain ⟨S, eS⟩ : ∃ S, S = (code.take i).foldl (mStep (k + 1)) (mAll code k) := ⟨_, rfl⟩
    rw [← eS] at hst ⊢
    rcases H.out.1 with ⟨-, e2⟩ | ⟨q, cap, e1, hc⟩
    · rw [e2] at hx; simp at hx
    rw [← H.out.2.2.1] at e1
    simp only [Value.slice.injEq, true_and] at e1
    obtain ⟨rfl, rfl⟩ := e1
    obtain ⟨c0, c1⟩ := insC_at hx
    have c0 := hc _ _ c0
    have c1 := hc _ _ c1
    have hbl := World.block_lt_of_cell? w _ c0
    have i0 : (0 : Int) ≤ (i : Int) := by omega
    have i1 : (i : Int) < (n : Int) := by omega
    have i2 : decide (i < n) = true := decide_eq_true (by omega)
    have u2 : wrap64 ((i : Int) + 1) = (i : Int) + 1 := by have := H.out.2.1; have := H.out.2.2.1; unfold wrap64; omega
    have HX := Lib.hid (And.intro hi (And.intro hst eS))
    clear hi hst eS hx hc
    have mk : ∀ (a : Int), (a = ((k + 1 : Nat) : Int)) = (a = (k : Int) + 1) := fun a => by rw [Int.natCast_add]; rfl
    have HMK := Lib.hid mk
    clear mk
    by_cases h4 : op = 4
    · subst h4
      by_cases ha : a = (k : Int) + 1
      · subst ha
        go_wp2_with fail
        go_roundg gi
        case measure => omega
        case rel =>
          obtain ⟨hi, hst, eS⟩ := HX.out
          exact ⟨i + 1, by omega, by rw [hst]; simp [mStep, orI], by rw [hst]; simp [mStep, orI], by go_num, rfl⟩
      · have ha2 : (a == (k : Int) + 1) = false := by simpa using ha
        have HA := Lib.hid ha
        go_wp2_with fail
        go_roundg gi
        case measure => omega
        case rel =>
          obtain ⟨hi, hst, eS⟩ := HX.out
          exact ⟨i + 1, by omega, by rw [hst]; simp [mStep, HA.out], by rw [hst]; simp [mStep, HA.out], by go_num, rfl⟩
    · have n4 : ¬ (op : Int) = 4 := by omega
      have n4' : ((op : Int) == 4) = false := by simp; omega
      by_cases h5 : op = 5
      · subst h5
        clear h4 n4 n4'
        by_cases ha : a = (k : Int) + 1
        · subst ha
          go_wp2_with fail
          go_roundg gi
          case measure => omega
          case rel =>
            obtain ⟨hi, hst, eS⟩ := HX.out
            exact ⟨i + 1, by omega, by rw [hst]; simp [mStep, orI], by rw [hst]; simp [mStep, orI], by go_num, rfl⟩
        · have ha2 : (a == (k : Int) + 1) = false := by simpa using ha
          have HA := Lib.hid ha
          go_wp2_with fail
          go_roundg gi
          case measure => omega
          case rel =>
            obtain ⟨hi, hst, eS⟩ := HX.out
            exact ⟨i + 1, by omega, by rw [hst]; simp [mStep, HA.out], by rw [hst]; simp [mStep, HA.out], by go_num, rfl⟩
      · have n5 : ¬ (op : Int) = 5 := by omega
        have n5' : ((op : Int) == 5) = false := by simp; omega
        have HA := Lib.hid (And.intro h4 h5)
        clear h4 h5
        go_wp2_with fail
        go_roundg gi
        case measure => omega
        case rel =>
          obtain ⟨hi, hst, eS⟩ := HX.out
          exact ⟨i + 1, by omega, by rw [hst]; simp [mStep, HA.out.1, HA.out.2], by rw [hst]; simp [mStep, HA.out.1, HA.out.2], by go_num, rfl⟩
end
end Go.Proofs.YtocbddajakbemaaGreat
namespace Go.Proofs.YtocbddajakbemaaGreat
section
open Go.RowKit
theorem ret_prog2 {fn : Func} {p u : Tmp} (h : fn.results = #[.cell p 70, .tmp u]) (tmps : Array Value) (w : World) (g : Nat) (cs : Array Value) (hn : cs.size = 4)
    (hp : tmps.getD p undef = .pointer (some ⟨g, 0, none⟩)) (hg : w.heap[g]? = some (.cells cs 70 (0, 0))) :
    (results fn tmps).run Tryz.prog w = .ok (.tuple #[.agg cs, tmps.getD u undef]) w := by
  have hp' : tmps[p]?.getD undef = .pointer (some ⟨g, 0, none⟩) := by simpa using hp
  have hi : (Tryz.prog.info? 70).map (·.size) = some cs.size := by rw [hn]; kernel_rfl
  have hl := run_loadVar_row (P := Tryz.prog) w g 70 70 cs (0, 0) _ hg Tryz.underlying70 rfl hi
  simp [results, h, hp', asAddr, hl]
def ResP13 (w : World) (most : Nat) (code : List In) (e : Ending) (w' : World) : Prop :=
  ∃ v, e = .returned (.tuple #[.agg #[v, .int .i64 (most : Nat), .int .u32 (mAll code 31).1, .int .u32 (mAll code 31).2], .int .i64 0]) ∧ Own w' w.heap.size v code ∧ Below w.heap.size w w'
set_option maxRecDepth 100000 in
set_option maxHeartbeats 4000000 in
theorem Compile13_ok (b : List S2) (BA : Option Addr) (bc : Nat) (hg : goodL b = true) (res : LSt) (hf : foldL F2 b ([], 0, []) = some res) (hl : res.2.2.length ≤ 1000) (w : World) (h : Sts w (fun q => q < w.heap.size) b BA) :
    Calls Tryz.prog 24 #[.slice BA b.length bc] w (ResP13 w res.2.1 res.2.2) := by
  obtain ⟨g, eg⟩ : ∃ g, g = w.heap.size := ⟨_, rfl⟩
  obtain ⟨w1, e1⟩ : ∃ w1, w1 = w.alloc (.cells #[.slice none 0 0, .int .i64 0, .int .u32 0, .int .u32 0] 70 (0, 0)) := ⟨_, rfl⟩
  have hb : Below g w w1 := by rw [e1, eg]; exact (Below.refl _ _).alloc (Nat.le_refl _) _
  have hs : w1.heap.size = g + 1 := by rw [e1, eg]; simp
  have hk : w1.heap[g]? = some (.cells #[.slice none 0 0, .int .i64 0, .int .u32 0, .int .u32 0] 70 (0, 0)) := by rw [e1, eg]; exact heap_alloc_new w _
  have h1 : Sts w1 (fun q => q < w1.heap.size) b BA := h.below hb eg
  have PR := Printable_ok b BA bc hg w1 h1
  have hbl : b.length ≤ 1000 := by unfold goodL at hg; simp only [Bool.and_eq_true, decide_eq_true_eq] at hg; exact hg.1
  have LS : ∀ W, Below w1.heap.size w1 W → Calls Tryz.prog 39 #[.slice BA b.length bc, .slice none 0 0] W (ResL W res.2.2 res.2.1) := by
    intro W hW
    exact list_ok F2 b BA bc [] none 0 res hf hbl (fun _ => ⟨rfl, rfl⟩) W (fun j s hj => by simp at hj) (ls2 hg (h1.below hW rfl))
  obtain ⟨n, en⟩ : ∃ n, n = b.length := ⟨_, rfl⟩
  obtain ⟨code, ec⟩ : ∃ code, code = res.2.2 := ⟨_, rfl⟩
  obtain ⟨most, em⟩ : ∃ most, most = res.2.1 := ⟨_, rfl⟩
  rw [← en] at PR LS ⊢
  rw [← ec] at LS hl ⊢
  rw [← em] at LS ⊢
  have H := Lib.hid (And.intro hb (And.intro hs (And.intro hk (And.intro LS (And.intro hl eg)))))
  clear hb hs hk LS hl h h1 hg hf hbl en ec em
  go_enter Tryz.func24, Tryz.ntmps24
  go_upto_region 1 with fail
  rw [← e1, ← eg]
  clear e1 eg
  go_upto_region 3 with (go_at_call 38; refine PR.mono ?_; rintro e w2 ⟨rfl, hb2⟩; have HB2 := Lib.hid hb2; clear hb2)
  clear PR
  have LSx := H.out.2.2.2.1 w2 HB2.out
  go_upto_region 4 with (go_at_call 39; refine LSx.mono ?_; rintro e w3 ⟨v, rfl, ho3, hb3⟩; have MK := RMasks_ok v code H.out.2.2.2.2.1 w3 ho3.at_; have HB3 := Lib.hid (And.intro ho3 hb3); clear ho3 hb3)
  obtain ⟨A, cc, rfl⟩ : ∃ A c, v = .slice A code.length c := by
    rcases HB3.out.1.at_ with ⟨h, e⟩ | ⟨q, cap, h, -⟩
    · exact ⟨none, 0, by rw [h, e]; rfl⟩
    · exact ⟨_, cap, h⟩
  obtain ⟨m, em⟩ : ∃ m, m = code.length := ⟨_, rfl⟩
  rw [← em] at MK ⊢
  have t1 : decide ((4000 : Int) < (m : Int)) = false := decide_eq_false (by have := H.out.2.2.2.2.1; omega)
  have HM := Lib.hid em
  clear em LSx
  have hb13 : Below w1.heap.size w1 w3 := HB2.out.trans (HB3.out.2.mono HB2.out.size)
  have hk3 := (hb13.block g (by have := H.out.2.1; omega)).trans H.out.2.2.1
  obtain ⟨d0, d1, d2, d3, z0, z1, z2, z3⟩ := ex_facts hk3
  have HK := Lib.hid (And.intro hb13 hk3)
  clear hb13 hk3
  obtain ⟨r, er⟩ : ∃ r, r = (mAll code 31).1 := ⟨_, rfl⟩
  obtain ⟨x, ex⟩ : ∃ x, x = (mAll code 31).2 := ⟨_, rfl⟩
  rw [← er, ← ex] at MK
  have HR := Lib.hid (And.intro er ex)
  clear er ex
  go_wp2_with (go_at_call 40; refine MK.mono ?_; rintro e w4 ⟨rfl, rfl⟩)
  refine bodyPost_ret (ret_prog2 rfl _ _ g _ rfl rfl (put4_block (.slice A m cc) (.int .i64 (most : Nat)) (.int .u32 r) (.int .u32 x) HK.out.2)) rfl ?_
  have eg := H.out.2.2.2.2.2
  have hb := H.out.1
  have hs := H.out.2.1
  have s13 := HK.out.1.size
  refine ⟨_, by rw [HR.out.1, HR.out.2]; rfl, ?_, ?_⟩
  · rw [← HR.out.1, ← HR.out.2] at *
    have ho := HB3.out.1
    rw [HM.out]
    refine Own.rebase (B := w2.heap.size) ?_ (by have := HB2.out.size; omega)
    exact own_blk ho (fun q hq => put4_ne _ _ _ _ _ _ (by have := HB2.out.size; have := (own_lt ho hq).2; omega))
  · rw [← eg]; exact put4_below _ _ _ _ (hb.trans (HK.out.1.mono (by omega))) (Nat.le_refl g)
end
end Go.Proofs.YtocbddajakbemaaGreat
namespace Go.Proofs.YtocbddajakbemaaGreat
section
open Go.RowKit
theorem infoIns2 : (Tryz.prog.info? 105).map (fun i => (i.zero, i.size, i.bytes)) = some (some (.agg #[.int .u8 0, .int .i64 0]), 2, 16) := by kernel_rfl
def Own2 (w : World) (B : Nat) (v : Value) (l : List In) : Prop := w.ownsRow B 105 2 v l.length (insC l)
structure TkIn (w : World) (g : Nat) (v : Value) (m r x : Int) (ov : Value) (W : World) : Prop where
  k0 : W.heap[g]? = some (.cells #[v, .int .i64 m, .int .u32 r, .int .u32 x] 70 (0, 0))
  k1 : W.heap[g + 1]? = some (.cells #[.slice none 0 0, .int .i64 0, .int .u32 0, .int .u32 0] 53 (0, 0))
  k2 : W.heap[g + 2]? = some (.cells #[ov, .int .i64 m, .int .u32 r, .int .u32 x] 53 (0, 0))
  hb : Below g w W
  hs : g + 3 ≤ W.heap.size
theorem tkIn_new (w : World) (v : Value) (m r x : Int) : ∃ w3, w3 = ((w.alloc (.cells #[v, .int .i64 m, .int .u32 r, .int .u32 x] 70 (0, 0))).alloc (.cells #[.slice none 0 0, .int .i64 0, .int .u32 0, .int .u32 0] 53 (0, 0))).alloc (.cells #[.slice none 0 0, .int .i64 m, .int .u32 r, .int .u32 x] 53 (0, 0)) ∧ TkIn w w.heap.size v m r x (.slice none 0 0) w3 := by
  refine ⟨_, rfl, ?_, ?_, ?_, ?_, ?_⟩
  · exact (Below.heap_alloc _ _ _ (by simp only [World.size_alloc]; omega)).trans (heap_alloc_fst w _ _)
  · exact (Below.heap_alloc _ _ _ (by simp only [World.size_alloc]; omega)).trans (heap_alloc_snd w _ _)
  · have := heap_alloc_new ((w.alloc (.cells #[v, .int .i64 m, .int .u32 r, .int .u32 x] 70 (0, 0))).alloc (.cells #[.slice none 0 0, .int .i64 0, .int .u32 0, .int .u32 0] 53 (0, 0))) (.cells #[.slice none 0 0, .int .i64 m, .int .u32 r, .int .u32 x] 53 (0, 0))
    simpa using this
  · exact (((Below.refl _ _).alloc (Nat.le_refl _) _).alloc (by simp) _).alloc (by simp; omega) _
  · simp
def TkS (g q i n cap op : Nat) (a : Int) (W : World) : Prop := W.cell? ⟨g, 0, none⟩ = some (.slice (some ⟨q, 0, none⟩) n cap) ∧ W.cell? ⟨q, i * 2, none⟩ = some (.int .u8 (op : Nat)) ∧ W.cell? ⟨q, i * 2 + 1, none⟩ = some (.int .i64 a)
theorem TkS.both {g q i n cap op : Nat} {a : Int} {W : World} (h : TkS g q i n cap op a W) : (W.cell? ⟨g, 0, none⟩ = some (.slice (some ⟨q, 0, none⟩) n cap) ∧ W.cell? ⟨q, i * 2, none⟩ = some (.int .u8 (op : Nat)) ∧ W.cell? ⟨q, i * 2 + 1, none⟩ = some (.int .i64 a)) ∧ TkS g q i n cap op a W := ⟨h, h⟩
theorem TkS.same {g q i n cap op : Nat} {a : Int} {W W' : World} (h : TkS g q i n cap op a W) (hb : ∀ k, k < W.heap.size → k = g ∨ k = q → W'.heap[k]? = W.heap[k]?) : TkS g q i n cap op a W' := by
  obtain ⟨h0, h1, h2⟩ := h
  have l0 := World.block_lt_of_cell? W _ h0
  have l1 := World.block_lt_of_cell? W _ h1
  exact ⟨cell_same h0 (hb _ l0 (by simp)), cell_same h1 (hb _ l1 (by simp)), cell_same h2 (hb _ l1 (by simp))⟩
theorem TkS.drew {g q i n cap op : Nat} {a : Int} {W : World} (h : TkS g q i n cap op a W) : TkS g q i n cap op a W.drew := h
theorem TkS.alloc {g q i n cap op : Nat} {a : Int} {W : World} (O : Obj) (h : TkS g q i n cap op a W) : TkS g q i n cap op a (W.alloc O) := h.same fun k hk _ => Below.heap_alloc _ _ _ hk
theorem TkS.grown {g q i n cap op : Nat} {a : Int} {W W' : World} {row : Option Nat} (h : TkS g q i n cap op a W) (hb : W.grownBy W' row) (h0 : some g ≠ row) (h1 : some q ≠ row) : TkS g q i n cap op a W' :=
  h.same fun k hk e => hb.block k hk (by rcases e with rfl | rfl <;> assumption)
theorem TkS.set {g q i n cap op b j : Nat} {a : Int} {W : World} (h : TkS g q i n cap op a W) (v : Value) (h0 : g ≠ b) (h1 : q ≠ b) : TkS g q i n cap op a (W.setCell ⟨b, j, none⟩ v) :=
  h.same fun k hk e => Below.heap_setCell _ _ _ _ (by rcases e with rfl | rfl <;> assumption)
theorem tk_next {w W WA w8 : World} {g : Nat} {v ov v8 : Value} {m r x : Int} {l : List In} {y : In} (TI : TkIn w g v m r x ov W) (ho : Own2 W (g + 3) ov l) (hA : Below W.heap.size W WA) (hg : WA.grownBy w8 ov.ownBlock)
    (h8 : w8.ownsRow (g + 3) 105 2 v8 (l.length + 1) (insC l ++ insC [y])) : TkIn w g v m r x v8 (w8.setCell ⟨g + 1 + 1, 0, none⟩ v8) ∧ Own2 (w8.setCell ⟨g + 1 + 1, 0, none⟩ v8) (g + 3) v8 (l ++ [y]) := by
  have hs := TI.hs
  have sA := hA.size
  have s8 := hg.size
  have hne : ∀ q, q < g + 3 → some q ≠ ov.ownBlock := fun q hq e => by have := (own_lt ho e.symm).2; omega
  have same : ∀ q, q < g + 3 → w8.heap[q]? = W.heap[q]? := fun q hq => (hg.block q (by omega) (hne q hq)).trans (hA.block q (by omega))
  have b8 : Below g w w8 := (TI.hb.trans (hA.mono (by omega))).grown hg (by have := TI.hb.size; omega) (fun q hq => by have := (own_lt ho hq).2; omega)
  refine ⟨⟨?_, ?_, ?_, ?_, ?_⟩, ?_⟩
  · exact (Below.heap_setCell _ _ _ _ (by show g ≠ g + 1 + 1; omega)).trans ((same g (by omega)).trans TI.k0)
  · exact (Below.heap_setCell _ _ _ _ (by show g + 1 ≠ g + 1 + 1; omega)).trans ((same (g + 1) (by omega)).trans TI.k1)
  · have h := block_setCell ((same (g + 2) (by omega)).trans TI.k2) 0 v8
    exact h
  · exact b8.trans (((Only.refl (g + 1 + 1) w8).setCell rfl v8).below (by omega))
  · simp [World.setCell]; omega
  · refine own_blk (w := w8) ?_ (fun q hq => Below.heap_setCell _ _ _ _ ?_)
    · rw [List.length_append, insC_append]; exact h8
    · have := (own_lt h8 hq).2; show q ≠ g + 1 + 1; omega
theorem ret_cprog1 {fn : Func} {p : Tmp} (h : fn.results = #[.cell p 53]) (tmps : Array Value) (w : World) (g : Nat) (cs : Array Value) (hn : cs.size = 4)
    (hp : tmps.getD p undef = .pointer (some ⟨g, 0, none⟩)) (hg : w.heap[g]? = some (.cells cs 53 (0, 0))) :
    (results fn tmps).run Tryz.prog w = .ok (.agg cs) w := by
  have hp' : tmps[p]?.getD undef = .pointer (some ⟨g, 0, none⟩) := by simpa using hp
  have hi : (Tryz.prog.info? 53).map (·.size) = some cs.size := by rw [hn]; kernel_rfl
  have hl := run_loadVar_row (P := Tryz.prog) w g 53 53 cs (0, 0) _ hg Tryz.underlying53 rfl hi
  simp [results, h, hp', asAddr, hl]
set_option maxRecDepth 100000 in
set_option maxHeartbeats 4000000 in
theorem Taken_ok (v : Value) (m r x : Int) (code : List In) (hl : code.length ≤ 1000) (w : World) (hv : InsAt w v code) :
    Calls Tryz.prog 25 #[.agg #[v, .int .i64 m, .int .u32 r, .int .u32 x]] w fun e w' => ∃ v', e = .returned (.agg #[v', .int .i64 m, .int .u32 r, .int .u32 x]) ∧ Own2 w' w.heap.size v' code ∧ Below w.heap.size w w' := by
  obtain ⟨A, cc, ev⟩ : ∃ A c, v = .slice A code.length c := by
    rcases hv with ⟨rfl, rfl⟩ | ⟨q, cap, rfl, -⟩
    · exact ⟨none, 0, rfl⟩
    · exact ⟨_, cap, rfl⟩
  obtain ⟨n, en⟩ : ∃ n, n = code.length := ⟨_, rfl⟩
  rw [← en] at ev
  obtain ⟨g, eg⟩ : ∃ g, g = w.heap.size := ⟨_, rfl⟩
  obtain ⟨w3, e3, TI⟩ := tkIn_new w v m r x
  rw [← eg] at TI
  have H := Lib.hid (And.intro hv (And.intro hl (And.intro en (And.intro ev (And.intro eg TI)))))
  rw [ev] at e3 ⊢
  have k0 := TI.k0
  rw [ev] at k0
  clear hv hl en ev TI
  go_enter Tryz.func25, Tryz.ntmps25
  go_upto_region 2 with fail
  rw [← e3, ← eg]
  have EG := Lib.hid (And.intro e3 eg)
  clear e3 eg k0
  go_wp2_with fail
  go_loopg [4] n (fun gh iv wr => ∃ (i : Nat) (ov : Value), gh + i = n ∧ iv = .int .i64 (i : Nat) ∧ TkIn w g v m r x ov wr ∧ Own2 wr (g + 3) ov (code.take i))
  case atStart => exact ⟨0, .slice none 0 0, rfl, rfl, H.out.2.2.2.2.2, ⟨rfl, Or.inl ⟨rfl, rfl⟩⟩⟩
  case round =>
  obtain ⟨i, ov, hi, rfl, TI, ho⟩ := hrel
  obtain ⟨W, eW⟩ : ∃ W, W = wr := ⟨_, rfl⟩
  rw [← eW] at TI ho ⊢
  clear eW
  have k0 := TI.k0
  have ev := H.out.2.2.2.1
  rw [ev] at k0
  clear ev
  obtain ⟨d0, d1, d2, d3, z0, z1, z2, z3⟩ := ex_facts k0
  rcases gk with _ | k
  · have hin : i = n := by omega
    have ht : code.take i = code := List.take_of_length_le (by have := H.out.2.2.1; omega)
    rw [ht] at ho
    obtain ⟨f0, f1, f2, f3, -⟩ := ex_facts TI.k2
    obtain ⟨p0, p1, p2, p3, y0, y1, y2, y3⟩ := ex_facts TI.k1
    obtain ⟨Ao, co, rfl⟩ : ∃ A c, ov = .slice A code.length c := by
      rcases ho.2 with ⟨h, e⟩ | ⟨g', cap, cur, h, -⟩
      · exact ⟨none, 0, by rw [h, e]⟩
      · exact ⟨_, cap, h⟩
    have i2 : decide ((i : Int) < (n : Int)) = false := decide_eq_false (by omega)
    have HT := Lib.hid (And.intro TI ho)
    subst hin
    clear TI ho hi ht k0 z0 z1 z2 z3
    go_wp2_with fail
    obtain ⟨TI, ho⟩ := HT.out
    refine bodyPost_ret (ret_cprog1 rfl _ _ (g + 1) _ rfl rfl (put4_block (.slice Ao code.length co) (.int .i64 m) (.int .u32 r) (.int .u32 x) TI.k1)) rfl ?_
    have eg := EG.out.2
    refine ⟨_, rfl, ?_, ?_⟩
    · rw [← eg]
      have h2 : Own2 (put4 W (g + 1) (.slice Ao code.length co) (.int .i64 m) (.int .u32 r) (.int .u32 x)) (g + 3) (.slice Ao code.length co) code := own_blk ho (fun q hq => put4_ne _ _ _ _ _ _ (by have := (own_lt ho hq).2; omega))
      exact own_rebase h2 (by omega)
    · rw [← eg]; exact put4_below _ _ _ _ TI.hb (by omega)
  · obtain ⟨⟨op, a⟩, hx⟩ : ∃ x, code[i]? = some x := ⟨_, List.getElem?_eq_getElem (by have := H.out.2.2.1; omega)⟩
    rcases H.out.1 with ⟨-, e2⟩ | ⟨q, cap, e1, hc⟩
    · rw [e2] at hx; simp at hx
    have ev := H.out.2.2.2.1
    rw [e1, ← H.out.2.2.1] at ev
    simp only [Value.slice.injEq, true_and] at ev
    obtain ⟨rfl, rfl⟩ := ev
    obtain ⟨c0, c1⟩ := insC_at hx
    have c0 := hc _ _ c0
    have c1 := hc _ _ c1
    have bw : Below w.heap.size w W := by rw [← EG.out.2]; exact TI.hb
    have HC := Lib.hid (And.intro c0 c1)
    have c0 := (bw.cell (World.block_lt_of_cell? w _ c0)).trans c0
    have c1 := (bw.cell (World.block_lt_of_cell? w _ c1)).trans c1
    have hbl := World.block_lt_of_cell? W _ c0
    obtain ⟨f0, -, -, -, y0, -⟩ := ex_facts TI.k2
    have i0 : (0 : Int) ≤ (i : Int) := by omega
    have i1 : (i : Int) < (n : Int) := by omega
    have i2 : decide (i < n) = true := decide_eq_true (by omega)
    have u1 : wrap64 ((i : Int) + 1) = (i : Int) + 1 := by have := H.out.2.1; have := H.out.2.2.1; unfold wrap64; omega
    obtain ⟨i9, hi9, hz0, hz1, hz2⟩ := info_parts infoIns2
    have HI := Lib.hid (And.intro hi9 (And.intro hz0 (And.intro hz1 hz2)))
    have HT := Lib.hid (And.intro TI (And.intro ho (And.intro hi (And.intro hx e1))))
    have gs3 : g + 3 ≤ W.heap.size := TI.hs
    have hti : (code.take i).length = i := by rw [List.length_take]; have := H.out.2.2.1; omega
    have HO := Lib.hid (show ∀ O, (W.alloc O).ownsRow (g + 3) 105 2 ov i (insC (code.take i)) from fun O => by have h := World.ownsRow.alloc ho O; rw [hti] at h; exact h)
    have HN := Lib.hid (And.intro gs3 (show i + 1 ≤ maxLen ∧ (i + 1) * 16 ≤ 140737488355328 from by have := H.out.2.1; have := H.out.2.2.1; unfold maxLen; omega))
    clear TI ho hi hx e1 hc bw k0 hi9 hz0 hz1 hz2 hti gs3 z0 z1 z2 z3 d1 d2 d3
    have HF := Lib.hid (And.intro (show ∀ O, g + 1 + 1 < (W.alloc O).heap.size from fun O => by have := HN.out.1; simp; omega) (And.intro (show some (g + 1 + 1) ≠ ov.ownBlock from fun e => by have := (own_lt HT.out.2.1 e.symm).2; omega) (And.intro (show ∀ O, (W.alloc O).cell? ⟨g + 1 + 1, 0, none⟩ = some ov from fun O => cell_al O f0) (And.intro (show ∀ O, (W.alloc O).frozen? ⟨g + 1 + 1, 0, none⟩ = false from fun O => free_of_block ((Below.heap_alloc W O _ (by have := HN.out.1; show g + 2 < _; omega)).trans HT.out.1.k2) 0) (show ∀ O, g + 3 ≤ (W.alloc O).heap.size from fun O => by have := HN.out.1; simp; omega)))))
    have fA : ∀ O, (W.alloc O).cell? ⟨g + 1 + 1, 0, none⟩ = some ov := HF.out.2.2.1
    have fD : ∀ O, (W.alloc O).drew.cell? ⟨g + 1 + 1, 0, none⟩ = some ov := HF.out.2.2.1
    have P0 : TkS g q i n cap op a W := ⟨d0, c0, c1⟩
    have n1 : g ≠ g + 1 + 1 := by omega
    have n2 : q ≠ g + 1 + 1 := by have := HF.out.2.1; have h1 : q < w.heap.size := World.block_lt_of_cell? w _ (HC.out.1); have h2 := EG.out.2; omega
    have n3 : some g ≠ ov.ownBlock := fun e => by have := (own_lt HT.out.2.1 e.symm).2; omega
    have n4 : some q ≠ ov.ownBlock := fun e => by have := (own_lt HT.out.2.1 e.symm).2; have h1 : q < w.heap.size := World.block_lt_of_cell? w _ (HC.out.1); have h2 := EG.out.2; omega
    go_upto_region 5 with fail
    clear d0 c0 c1
    have f0' : W.cell? ⟨g + 1 + 1, 0, none⟩ = some ov := f0
    have hgl := World.block_lt_of_cell? W _ f0'
    have hg0 := World.block_lt_of_cell? W _ P0.1
    have d0 := P0.1
    have c0 := P0.2.1
    have c1 := P0.2.2
    have hbl1 := World.block_lt_of_cell? W _ c1
    clear fA fD f0 y0
    go_region_law (refine step_append_lies _ rfl (.tmp 20) (.tmp 34) 51 rfl (g + 3) 105 i9 _ 2 16 Tryz.underlying51 HI.out.1 HI.out.2.1 HI.out.2.2.1 HI.out.2.2.2 rfl (by decide) ov i (insC (code.take i)) rfl (HO.out _) _ 1 1 (insC [(op, a)]) rfl rfl (World.news_of_block (heap_alloc_new _ _)) (insC_one _) (by decide) HN.out.2.1 HN.out.2.2 (HF.out.2.2.2.2 _) _ rfl ?_
                   intro gb cb w8 hown8 hg8 hat8 hlt8
                   have f8 : w8.cell? ⟨g + 1 + 1, 0, none⟩ = some ov := (hg8.cell_far ⟨g + 1 + 1, 0, none⟩ (HF.out.1 _) HF.out.2.1).trans (HF.out.2.2.1 _)
                   have y8 : w8.frozen? ⟨g + 1 + 1, 0, none⟩ = false := (hg8.frozen_far ⟨g + 1 + 1, 0, none⟩ (HF.out.1 _) HF.out.2.1).trans (HF.out.2.2.2.1 _)
                   have HV := Lib.hid (And.intro hown8 (And.intro hg8 hlt8)); clear hown8 hg8 hat8 hlt8)
    all_goals go_wp2_with fail
    all_goals (
      obtain ⟨hown8, hg8, -⟩ := HV.out
      obtain ⟨TI, ho, hi, hx, -⟩ := HT.out
      have hti : (code.take i).length = i := by rw [List.length_take]; have := H.out.2.2.1; omega
      have htk : code.take (i + 1) = code.take i ++ [(op, a)] := by rw [List.take_add_one, hx]; rfl
      have NX : TkIn w g v m r x (.slice (some ⟨gb, 0, none⟩) (i + 1) cb) (w8.setCell ⟨g + 1 + 1, 0, none⟩ (.slice (some ⟨gb, 0, none⟩) (i + 1) cb)) ∧ Own2 (w8.setCell ⟨g + 1 + 1, 0, none⟩ (.slice (some ⟨gb, 0, none⟩) (i + 1) cb)) (g + 3) (.slice (some ⟨gb, 0, none⟩) (i + 1) cb) (code.take i ++ [(op, a)]) :=
        tk_next TI ho (by repeat (first | exact Below.refl _ _ | apply Below.drew | apply belowAlloc)) hg8 (by rw [hti]; exact hown8)
      rw [← htk] at NX
      have HZ := Lib.hid NX
      clear NX
      go_roundg k
      case measure => omega
      case rel => exact ⟨i + 1, _, by omega, by go_num, HZ.out.1, HZ.out.2⟩)
end
end Go.Proofs.YtocbddajakbemaaGreat
namespace Go.Proofs.YtocbddajakbemaaGreat
section
open Go.RowKit
def ResT (w : World) (most : Nat) (code : List In) (e : Ending) (w' : World) : Prop :=
  ∃ v, e = .returned (.agg #[v, .int .i64 (most : Nat), .int .u32 (mAll code 31).1, .int .u32 (mAll code 31).2]) ∧ Own2 w' w.heap.size v code ∧ Below w.heap.size w w'
theorem Own.shape {w : World} {B : Nat} {v : Value} {l : List In} (h : Own w B v l) : ∃ A c, v = .slice A l.length c := by
  rcases h.at_ with ⟨h, e⟩ | ⟨q, cap, h, -⟩
  · exact ⟨none, 0, by rw [h, e]; rfl⟩
  · exact ⟨_, cap, h⟩
theorem Own2.shape {w : World} {B : Nat} {v : Value} {l : List In} (h : Own2 w B v l) : ∃ A c, v = .slice A l.length c := by
  rcases h.2 with ⟨h, e⟩ | ⟨g', cap, cur, h, -⟩
  · exact ⟨none, 0, by rw [h, e]⟩
  · exact ⟨_, cap, h⟩
set_option maxRecDepth 100000 in
set_option maxHeartbeats 4000000 in
theorem program_ok (t : ByteArray) (l : List Tk) (b : List S2) (res : LSt) (hs : t.size ≤ 1000) (hlx : lexM t (t.size + 1) 0 [] = some l) (hp : pP l 40 40 0 [] = some b) (hl : l.length ≤ 100000) (hg : goodL b = true) (hf : foldL F2 b ([], 0, []) = some res) (hc : res.2.2.length ≤ 1000) (w : World) :
    Calls Tryz.prog 14 #[.string t] w (ResT w res.2.1 res.2.2) := by
  obtain ⟨g, eg⟩ : ∃ g, g = w.heap.size := ⟨_, rfl⟩
  obtain ⟨w1, e1⟩ : ∃ w1, w1 = w.alloc (.cells #[.slice none 0 0, .int .i64 0, .int .u32 0, .int .u32 0] 53 (0, 0)) := ⟨_, rfl⟩
  have hb : Below g w w1 := by rw [e1, eg]; exact (Below.refl _ _).alloc (Nat.le_refl _) _
  have hs1 : w1.heap.size = g + 1 := by rw [e1, eg]; simp
  have hk : w1.heap[g]? = some (.cells #[.slice none 0 0, .int .i64 0, .int .u32 0, .int .u32 0] 53 (0, 0)) := by rw [e1, eg]; exact heap_alloc_new w _
  have PS := Parse_ok t l b 40 hs hlx hp hl (by omega) w1
  obtain ⟨code, ec⟩ : ∃ code, code = res.2.2 := ⟨_, rfl⟩
  obtain ⟨most, em⟩ : ∃ most, most = res.2.1 := ⟨_, rfl⟩
  rw [← ec] at hc ⊢
  rw [← em]
  have CP : ∀ BA bc w2, Sts w2 (fun q => q < w2.heap.size) b BA → Calls Tryz.prog 24 #[.slice BA b.length bc] w2 (ResP13 w2 most code) := by
    intro BA bc w2 h2
    have := Compile13_ok b BA bc hg res hf (by rw [← ec]; exact hc) w2 h2
    rw [← ec, ← em] at this
    exact this
  have H := Lib.hid (And.intro hb (And.intro hs1 (And.intro hk (And.intro CP (And.intro hc eg)))))
  clear hb hs1 hk CP hc hg hf ec em hl hp hlx hs
  obtain ⟨n, en⟩ : ∃ n, n = b.length := ⟨_, rfl⟩
  have HN := Lib.hid en
  clear en
  go_enter Tryz.func14, Tryz.ntmps14
  go_upto_region 1 with fail
  rw [← e1, ← eg]
  clear e1 eg
  go_upto_region 2 with (go_at_call 23; refine PS.mono ?_; rintro e w2 ⟨BA, bc, rfl, hst, hb2⟩; have H2 := Lib.hid (And.intro hst hb2); clear hst hb2)
  clear PS
  have CP := H.out.2.2.2.1 BA bc w2 H2.out.1.now
  rw [← HN.out] at CP ⊢
  go_upto_region 3 with (go_at_call 24; refine CP.mono ?_; rintro e w3 ⟨v, rfl, ho, hb3⟩; obtain ⟨VA, vc, ev⟩ := ho.shape; subst ev; have H3 := Lib.hid (And.intro ho hb3); clear ho hb3)
  clear CP
  obtain ⟨r, er⟩ : ∃ r, r = (mAll code 31).1 := ⟨_, rfl⟩
  obtain ⟨x, ex⟩ : ∃ x, x = (mAll code 31).2 := ⟨_, rfl⟩
  rw [← er, ← ex]
  have HR := Lib.hid (And.intro er ex)
  clear er ex
  obtain ⟨w4, e4⟩ : ∃ w4, w4 = w3.alloc (.cells #[.slice VA code.length vc, .int .i64 (most : Nat), .int .u32 r, .int .u32 x] 70 (0, 0)) := ⟨_, rfl⟩
  rw [← e4]
  obtain ⟨q, eq⟩ : ∃ q, q = w3.heap.size := ⟨_, rfl⟩
  rw [← eq]
  have kq : w4.heap[q]? = some (.cells #[.slice VA code.length vc, .int .i64 (most : Nat), .int .u32 r, .int .u32 x] 70 (0, 0)) := by rw [e4, eq]; exact heap_alloc_new w3 _
  have h34 : Below w3.heap.size w3 w4 := by rw [e4]; exact (Below.refl _ _).alloc (Nat.le_refl _) _
  have h14 : Below w1.heap.size w1 w4 := (H2.out.2.trans (H3.out.2.mono H2.out.2.size)).trans (h34.mono (by have := H2.out.2.size; have := H3.out.2.size; omega))
  have TK := Taken_ok (.slice VA code.length vc) (most : Nat) r x code H.out.2.2.2.2.1 w4 (H3.out.1.at_.below h34 rfl)
  obtain ⟨q0, q1, q2, q3, -⟩ := ex_facts kq
  have H4 := Lib.hid (And.intro e4 (And.intro eq (And.intro kq (And.intro h34 h14))))
  clear e4 eq kq h34 h14
  have KB : ∀ W, Below w4.heap.size w4 W → W.heap[g]? = some (.cells #[.slice none 0 0, .int .i64 0, .int .u32 0, .int .u32 0] 53 (0, 0)) := by
    intro W hW
    have s14 := H4.out.2.2.2.2.size
    have s1 := H.out.2.1
    exact (hW.block g (by omega)).trans ((H4.out.2.2.2.2.block g (by omega)).trans H.out.2.2.1)
  have HK := Lib.hid KB
  clear KB
  go_wp2_with (go_at_call 25; refine TK.mono ?_; rintro e w5 ⟨v5, rfl, ho5, hb5⟩; obtain ⟨VB, vd, ev⟩ := ho5.shape; subst ev; obtain ⟨d0, d1, d2, d3, z0, z1, z2, z3⟩ := ex_facts (HK.out _ hb5); have H5 := Lib.hid (And.intro ho5 hb5); clear ho5 hb5)
  refine bodyPost_ret (ret_cprog1 rfl _ _ g _ rfl rfl (put4_block (.slice VB code.length vd) (.int .i64 (most : Nat)) (.int .u32 r) (.int .u32 x) (HK.out _ H5.out.2))) rfl ?_
  have eg := H.out.2.2.2.2.2
  have hb := H.out.1
  have s1 := H.out.2.1
  have s14 := H4.out.2.2.2.2.size
  refine ⟨_, by rw [HR.out.1, HR.out.2], ?_, ?_⟩
  · refine own_rebase (B := w4.heap.size) ?_ (by omega)
    exact own_blk H5.out.1 (fun q hq => put4_ne _ _ _ _ _ _ (by have := (own_lt H5.out.1 hq).2; omega))
  · rw [← eg]; exact put4_below _ _ _ _ ((hb.trans (H4.out.2.2.2.2.mono (by omega))).trans (H5.out.2.mono (by omega))) (Nat.le_refl g)
theorem codeOf_spec {t : ByteArray} {m : Nat} {code : List In} (h : (codeOf t).map (fun r => r.2) = some (m, code)) (hs : t.size ≤ 1000) (hl : (lexM t (t.size + 1) 0 []).all (fun l => decide (l.length ≤ 100000)) = true) (hc : code.length ≤ 1000) (w : World) :
    Calls Tryz.prog 14 #[.string t] w (ResT w m code) := by
  unfold codeOf at h
  rcases hlx : lexM t (t.size + 1) 0 [] with _ | l
  · rw [hlx] at h; cases h
  rw [hlx] at h hl
  simp only [Option.bind_some] at h
  rcases hp : pP l 40 40 0 [] with _ | b
  · rw [hp] at h; cases h
  rw [hp] at h
  simp only [Option.bind_some] at h
  by_cases hg : goodL b = true
  · rw [if_pos hg] at h
    rcases hf : foldL F2 b ([], 0, []) with _ | res
    · rw [hf] at h; cases h
    rw [hf] at h
    simp only [Option.map_some, Option.some.injEq] at h
    have e1 : res.2.1 = m := by rw [h]
    have e2 : res.2.2 = code := by rw [h]
    have := program_ok t l b res hs hlx hp (by simpa using hl) hg hf (by rw [e2]; exact hc) w
    rw [e1, e2] at this
    exact this
  · rw [if_neg hg] at h; cases h
theorem prog0_ok (w : World) : Calls Tryz.prog 14 #[.string text0] w (ResT w 1 prog0) := codeOf_spec code0 (by decide) (by decide +kernel) (by decide) w
theorem prog1_ok (w : World) : Calls Tryz.prog 14 #[.string text1] w (ResT w 0 prog1) := codeOf_spec code1 (by decide) (by decide +kernel) (by decide) w
theorem prog2_ok (w : World) : Calls Tryz.prog 14 #[.string text2] w (ResT w 0 prog2) := codeOf_spec code2 (by decide) (by decide +kernel) (by decide) w
end
end Go.Proofs.YtocbddajakbemaaGreat
