/- vm: the law's fuel. vm: the law's fine. vm: a run leaves the kinds of components as they are. vm: Run in the laws: any sound program. vm: what the walk is told of a program, an entity, a query that come in. -/
import Derived.Test.YtocbddajakbemaaMU
import Derived.Test.YtocbddajakbemaaMG
import Derived.Test.YtocbddajakbemaaOpen
import Derived.Deep.Strs
set_option linter.unusedVariables false
set_option linter.unusedSimpArgs false
namespace Go.Proofs.Ytocbddajakbemaa
section
open Go.RowKit

theorem tmod_emod (n : Int) : (n.tmod 10001 < 0 → n.tmod 10001 + 10001 = n % 10001) ∧ (0 ≤ n.tmod 10001 → n.tmod 10001 = n % 10001) := by
  have h := Int.tmod_eq_emod (a := n) (b := 10001)
  have h2 := Int.emod_nonneg n (show (10001 : Int) ≠ 0 by decide)
  have h3 := Int.emod_lt_of_pos n (show (0 : Int) < 10001 by decide)
  split at h
  · constructor <;> intro h4 <;> omega
  · constructor <;> intro h4 <;> simp at h <;> omega
def fuelF (n : Int) : Nat := (n % 10001).toNat
theorem fuelF_le (n : Int) : fuelF n ≤ 10000 := by
  have h2 := Int.emod_nonneg n (show (10001 : Int) ≠ 0 by decide)
  have h3 := Int.emod_lt_of_pos n (show (0 : Int) < 10001 by decide)
  unfold fuelF; omega
theorem fuelF_int (n : Int) : ((fuelF n : Nat) : Int) = n % 10001 := by
  have h2 := Int.emod_nonneg n (show (10001 : Int) ≠ 0 by decide)
  unfold fuelF; omega
set_option maxRecDepth 100000 in
theorem Pick_ok (n : Int) (w : World) : Calls Try.prog 24 #[.int .i64 n, .int .i64 10001] w fun e w' => e = .returned (.int .i64 (fuelF n : Nat)) ∧ w = w' := by
  obtain ⟨h1, h2⟩ := tmod_emod n
  have hf := fuelF_int n
  obtain ⟨t, et⟩ : ∃ t, t = n.tmod 10001 := ⟨_, rfl⟩
  obtain ⟨r, er⟩ : ∃ r, r = ((fuelF n : Nat) : Int) := ⟨_, rfl⟩
  have hle := fuelF_le n
  rw [← er] at hf ⊢
  rw [← hf, ← et] at h1 h2
  have u : wrap64 t = t := by
    by_cases h : t < 0
    · have := h1 h; unfold wrap64; omega
    · have := h2 (by omega); unfold wrap64; omega
  by_cases h : t < 0
  · have e1 := h1 h
    have u2 : wrap64 (t + 10001) = t + 10001 := by unfold wrap64; omega
    have d : decide (t < 0) = true := decide_eq_true h
    have HX := Lib.hid e1
    have HT := et.symm
    clear h1 h2 hf er hle e1 et
    go_enter Try.func24, Try.ntmps24
    go_wp2_with fail
    go_ret
    exact ⟨ret_congr (congrArg (Value.int .i64) (u2.trans HX.out)), rfl⟩
  · have e1 := h2 (by omega)
    have d : decide (t < 0) = false := decide_eq_false h
    have HX := Lib.hid e1
    have HT := et.symm
    clear h1 h2 hf er hle e1 et
    go_enter Try.func24, Try.ntmps24
    go_wp2_with fail
    go_ret
    exact ⟨by rw [← HX.out]; rfl, rfl⟩
theorem fuel_ok (n : Int) (w : World) : Calls Try.prog 11 #[.int .i64 n] w fun e w' => e = .returned (.int .i64 (fuelF n : Nat)) ∧ w = w' := by
  have P := Pick_ok n w
  obtain ⟨f, ef⟩ : ∃ f, f = fuelF n := ⟨_, rfl⟩
  rw [← ef] at P ⊢
  clear ef
  go_enter Try.func11, Try.ntmps11
  go_wp2_with (go_at_call 24; refine P.mono ?_; rintro e w1 ⟨rfl, rfl⟩)
  go_ret
  exact ⟨rfl, rfl⟩
end
end Go.Proofs.Ytocbddajakbemaa
namespace Go.Proofs.Ytocbddajakbemaa
section
open Go.RowKit

/-- The components are of different kinds. -/
def Apart (cs : List Cmp) : Prop := ∀ (a b : Nat) (c d : Cmp), b < a → cs[a]? = some c → cs[b]? = some d → ¬ c.kind = d.kind
/-- What a program and an entity are that fine accepts. -/
def FineX (L R Wr : Int) (code : List (Nat × Int)) (cs : List Cmp) : Prop := code.length ≤ 400 ∧ cs.length ≤ 20 ∧ soundF L R Wr code = some true ∧ Apart cs
set_option maxRecDepth 100000 in
set_option maxHeartbeats 4000000 in
theorem fine_ok (cA : Option Addr) (cn cc : Nat) (L R Wr ID : Int) (code : List (Nat × Int)) (A : Option Addr) (n cap : Nat) (cs : List Cmp) (w : World) (hcn : cn = code.length) (hop : ∀ x, x ∈ code → x.1 < 256) (hcode : CodeAt w w.heap.size cA code) (hn : n = cs.length) (hc : CompsAt w A cs) :
    Calls Try.prog 9 #[.agg #[.slice cA cn cc, .int .i64 L, .int .u32 R, .int .u32 Wr], .agg #[.int .i64 ID, .slice A n cap]] w fun e w' => ∃ b, e = .returned (.bool b) ∧ (b = true → FineX L R Wr code cs) ∧ Below w.heap.size w w' := by
  obtain ⟨g, eg⟩ : ∃ g, g = w.heap.size := ⟨_, rfl⟩
  obtain ⟨w2, e2⟩ : ∃ w2, w2 = (w.alloc (.cells #[.slice cA cn cc, .int .i64 L, .int .u32 R, .int .u32 Wr] 27 (0, 0))).alloc (.cells #[.int .i64 ID, .slice A n cap] 30 (0, 0)) := ⟨_, rfl⟩
  have hb2 : Below w.heap.size w w2 := by rw [e2]; exact ((Below.refl _ _).alloc (Nat.le_refl _) _).alloc (by simp) _
  have kA : w2.heap[g]? = some (.cells #[.slice cA cn cc, .int .i64 L, .int .u32 R, .int .u32 Wr] 27 (0, 0)) := by rw [e2, eg]; exact (Below.heap_alloc _ _ _ (by simp)).trans (heap_alloc_new _ _)
  have kB : w2.heap[g + 1]? = some (.cells #[.int .i64 ID, .slice A n cap] 30 (0, 0)) := by
    rw [e2, eg]
    have := heap_alloc_new (w.alloc (.cells #[.slice cA cn cc, .int .i64 L, .int .u32 R, .int .u32 Wr] 27 (0, 0))) (.cells #[.int .i64 ID, .slice A n cap] 30 (0, 0))
    simpa using this
  obtain ⟨a0, a1, a2, a3⟩ := prog_cells kA
  obtain ⟨-, f1, -, -⟩ := ent_cells kB
  have SD := fun (hl : code.length ≤ 4000) b hb' => Sound_ok cA cn cc L R Wr code b w2 hcn hl hop ((hcode.below hb2).mono hb2.size) hb'
  have H := Lib.hid (And.intro hb2 (And.intro kB (And.intro SD (And.intro hcn (And.intro hn (And.intro hc eg))))))
  clear hb2 kA kB SD hcn hop hcode hc hn
  by_cases h4 : 400 < cn
  · have d4 : decide ((400 : Int) < (cn : Int)) = true := decide_eq_true (by omega)
    go_enter Try.func9, Try.ntmps9
    go_upto_region 1 with fail
    rw [← e2, ← eg]
    clear e2 eg h4
    go_wp2_with fail
    go_ret
    exact ⟨false, rfl, (fun e => by cases e), H.out.1⟩
  have d4 : decide ((400 : Int) < (cn : Int)) = false := decide_eq_false (by omega)
  by_cases h2 : 20 < n
  · have d2 : decide ((20 : Int) < (n : Int)) = true := decide_eq_true (by omega)
    go_enter Try.func9, Try.ntmps9
    go_upto_region 1 with fail
    rw [← e2, ← eg]
    clear e2 eg h4 h2
    go_wp2_with fail
    go_ret
    exact ⟨false, rfl, (fun e => by cases e), H.out.1⟩
  have d2 : decide ((20 : Int) < (n : Int)) = false := decide_eq_false (by omega)
  obtain ⟨b, hb⟩ := sound_total L R Wr code
  have SD := H.out.2.2.1 (by have := H.out.2.2.2.1; omega) b hb
  have HN := Lib.hid (And.intro h4 (And.intro h2 hb))
  clear h4 h2 hb
  rcases b with _ | _
  · go_enter Try.func9, Try.ntmps9
    go_upto_region 1 with fail
    rw [← e2, ← eg]
    clear e2 eg
    go_wp2_with (go_at_call 20; refine SD.mono ?_; rintro e w3 ⟨rfl, hb3⟩; have H3 := Lib.hid hb3; clear hb3)
    go_ret
    exact ⟨false, rfl, (fun e => by cases e), H.out.1.trans (H3.out.mono H.out.1.size)⟩
  · go_enter Try.func9, Try.ntmps9
    go_upto_region 1 with fail
    rw [← e2, ← eg]
    clear e2 eg
    go_upto_region 3 with (go_at_call 20; refine SD.mono ?_; rintro e w3 ⟨rfl, hb3⟩; have H3 := Lib.hid hb3; clear hb3)
    clear SD a0 a1 a2 a3 f1 d4 d2
    go_wp2_with fail
    go_loopg [5] n (fun gh iv wr => ∃ i : Nat, gh + i = n ∧ iv = .int .i64 (i : Nat) ∧ (∀ (a b : Nat) (c d : Cmp), a < i → b < a → cs[a]? = some c → cs[b]? = some d → ¬ c.kind = d.kind) ∧ Below w2.heap.size w2 wr)
    case atStart => exact ⟨0, by simp, rfl, fun a b c d h => by omega, H3.out⟩
    case round =>
    obtain ⟨i, hi, rfl, hap, hW⟩ := hrel
    obtain ⟨-, f1, -, -⟩ := ent_cells ((hW.block _ (lt_of_block H.out.2.1)).trans H.out.2.1)
    have HI := Lib.hid (And.intro hi (And.intro hap hW))
    clear hi hap hW
    rcases gk with _ | go
    · have i2 : decide (i < n) = false := decide_eq_false (by have := HI.out.1; omega)
      go_wp2_with fail
      go_ret
      refine ⟨true, rfl, fun _ => ⟨by have := H.out.2.2.2.1; have := HN.out.1; omega, by have := H.out.2.2.2.2.1; have := HN.out.2.1; omega, HN.out.2.2, ?_⟩, H.out.1.trans (HI.out.2.2.mono H.out.1.size)⟩
      intro a b c d hba ha hd
      have hlt : a < cs.length := (List.getElem?_eq_some_iff.1 ha).1
      exact HI.out.2.1 a b c d (by have := HI.out.1; have := H.out.2.2.2.2.1; omega) hba ha hd
    · have i2 : decide (i < n) = true := decide_eq_true (by have := HI.out.1; omega)
      have i20 : wrap64 ((i : Int) + 1) = (i : Int) + 1 := by have := HI.out.1; have := HN.out.2.1; unfold wrap64; omega
      go_wp2_with fail
      go_loopg [6] i (fun gh kv wr => ∃ k : Nat, gh + k = i ∧ kv = .int .i64 (k : Nat) ∧ (∀ (b : Nat) (c d : Cmp), b < k → cs[i]? = some c → cs[b]? = some d → ¬ c.kind = d.kind) ∧ Below w2.heap.size w2 wr)
      case atStart => exact ⟨0, by simp, rfl, fun b c d h => by omega, HI.out.2.2⟩
      case round =>
      obtain ⟨k, hk, rfl, hap2, hW⟩ := hrel
      have HK := Lib.hid (And.intro hk (And.intro hap2 hW))
      clear hk hap2 f1
      rcases gk with _ | gq
      · have k2 : decide (k < i) = false := decide_eq_false (by have := HK.out.1; omega)
        clear hW
        go_wp2_with fail
        go_roundg go
        case measure => have := HI.out.1; omega
        case rel =>
          refine ⟨i + 1, by have := HI.out.1; omega, by go_num, ?_, HK.out.2.2⟩
          intro a b c d ha hb hc hd
          by_cases hai : a < i
          · exact HI.out.2.1 a b c d hai hb hc hd
          · obtain rfl : a = i := by omega
            exact HK.out.2.1 b c d (by have := HK.out.1; omega) hc hd
      · have hki : k < i := by have := HK.out.1; omega
        have k2 : decide (k < i) = true := decide_eq_true hki
        have hin : i < n := by have := HI.out.1; omega
        have u2 : wrap64 ((k : Int) + 1) = (k : Int) + 1 := by have := HI.out.1; have := HN.out.2.1; unfold wrap64; omega
        obtain ⟨c, hc⟩ : ∃ c, cs[i]? = some c := ⟨_, List.getElem?_eq_getElem (by have := H.out.2.2.2.2.1; omega)⟩
        obtain ⟨d, hd⟩ : ∃ d, cs[k]? = some d := ⟨_, List.getElem?_eq_getElem (by have := H.out.2.2.2.2.1; omega)⟩
        have hA := (H.out.2.2.2.2.2.1.below H.out.1 rfl).below hW rfl
        obtain ⟨ab, ao, eA⟩ := hA.base (by have := H.out.2.2.2.2.1; omega)
        obtain ⟨-, f1, -, -⟩ := ent_cells ((hW.block _ (lt_of_block H.out.2.1)).trans H.out.2.1)
        rw [eA] at hA f1
        obtain ⟨c0, -, -, -, -⟩ := hA.cells hc
        obtain ⟨d0, -, -, -, -⟩ := hA.cells hd
        have i0 : (0 : Int) ≤ (i : Int) := by omega
        have i1 : (i : Int) < (n : Int) := by omega
        have j0 : (0 : Int) ≤ (k : Int) := by omega
        have j1 : (k : Int) < (n : Int) := by omega
        have HX := Lib.hid (And.intro hc (And.intro hd hki))
        clear hc hd hki hA hin eA
        by_cases he : c.kind = d.kind
        · rw [← he] at d0
          clear he hW
          go_upto_region 9 with fail
          go_region
          all_goals go_wp2_with fail
          all_goals go_ret
          all_goals exact ⟨false, rfl, (fun e => by cases e), H.out.1.trans (HK.out.2.2.drew.mono H.out.1.size)⟩
        · have he2 : ((d.kind : Int) == (c.kind : Int)) = false := by simp; omega
          have he3 : ¬ (d.kind : Int) = (c.kind : Int) := by omega
          have HE := Lib.hid he
          clear he hW
          go_upto_region 9 with fail
          go_region
          all_goals go_wp2_with fail
          all_goals go_roundg gq
          all_goals first
            | omega
            | (refine ⟨k + 1, by have := HK.out.1; omega, by go_num, ?_, HK.out.2.2.drew⟩
               intro b c' d' hb hc' hd'
               by_cases hbk : b < k
               · exact HK.out.2.1 b c' d' hbk hc' hd'
               · obtain rfl : b = k := by omega
                 rw [HX.out.1] at hc'
                 rw [HX.out.2.1] at hd'
                 injection hc' with hc'
                 injection hd' with hd'
                 rw [← hc', ← hd']
                 exact HE.out)
end
end Go.Proofs.Ytocbddajakbemaa
namespace Go.Proofs.Ytocbddajakbemaa
section
open Go.RowKit

def kinds (cs : List Cmp) : List Nat := cs.map Cmp.kind
theorem kinds_set {cs : List Cmp} {i : Nat} {c c' : Cmp} (hc : cs[i]? = some c) (hk : c'.kind = c.kind) : kinds (cs.set i c') = kinds cs := by
  have hlt := (List.getElem?_eq_some_iff.1 hc).1
  unfold kinds
  rw [List.map_set]
  apply List.ext_getElem?
  intro j
  by_cases h : i = j
  · subst h
    rw [List.getElem?_set_self (by simpa using hlt), List.getElem?_map, hc]
    simp [hk]
  · rw [List.getElem?_set_ne h]
theorem deed_kinds {S : Fix} {op : Nat} {a : Int} {σ σ' : Mst} (hr : deedF S op a σ = some (.ok σ')) : kinds σ'.cs = kinds σ.cs := by
  unfold deedF at hr
  split at hr
  · cases hr
  · (repeat' split at hr) <;> first | (cases hr; done) | (injection hr with hr; injection hr with hr; subst hr; first | rfl | exact kinds_set (by assumption) (put_kind _ _ _))
theorem run_kinds {S : Fix} {code : List (Nat × Int)} : ∀ (f : Nat) (σ : Mst) (r : Except (Nat × Nat) (Nat × Mst)), runF S code f σ = some r → kinds (endC σ.cs r) = kinds σ.cs := by
  intro f
  induction f with
  | zero =>
    intro σ r h
    rw [runF.eq_def] at h
    simp only at h
    repeat' split at h
    all_goals first | (cases h; done) | (injection h with h; subst h; rfl)
  | succ f ih =>
    intro σ r h
    rw [runF.eq_def] at h
    simp only at h
    (repeat' split at h)
    all_goals first | (cases h; done) | (injection h with h; subst h; rfl) | skip
    rename_i hd
    have h1 := ih _ _ h
    have h2 := deed_kinds hd
    rcases r with r | r
    · rfl
    · exact h1.trans h2
theorem run_length {S : Fix} {code : List (Nat × Int)} {f L : Nat} {cs : List Cmp} {r : Except (Nat × Nat) (Nat × Mst)} (h : runF S code f ⟨0, 0, [], List.replicate L 0, cs⟩ = some r) : (endC cs r).length = cs.length := by
  have := congrArg List.length (run_kinds _ _ _ h)
  simpa [kinds] using this
end
end Go.Proofs.Ytocbddajakbemaa
namespace Go.Proofs.Ytocbddajakbemaa
section
open Go.RowKit

/-- A program that came in. -/
structure PArg (w : World) (cA : Option Addr) (cn cc : Nat) (code : List (Nat × Int)) : Prop where
  cn : cn = code.length
  op : ∀ x, x ∈ code → x.1 < 256
  at_ : CodeAt w w.heap.size cA code
theorem PArg.below {w W : World} {cA : Option Addr} {cn cc : Nat} {code : List (Nat × Int)} (h : PArg w cA cn cc code) (hb : Below w.heap.size w W) : PArg W cA cn cc code :=
  ⟨h.cn, h.op, (h.at_.below hb).mono hb.size⟩
/-- An entity that came in. -/
structure XArg (w : World) (A : Option Addr) (n cap : Nat) (cs : List Cmp) : Prop where
  len : n = cs.length
  at_ : CompsAt w A cs
  kind : ∀ c, c ∈ cs → c.kind < 256
  nil : A = none → n = 0 ∧ cap = 0
theorem XArg.below {w W : World} {A : Option Addr} {n cap : Nat} {cs : List Cmp} (h : XArg w A n cap cs) (hb : Below w.heap.size w W) : XArg W A n cap cs :=
  ⟨h.len, h.at_.below hb rfl, h.kind, h.nil⟩
/-- The state in which a run begins. -/
def start (L : Nat) (cs : List Cmp) : Mst := ⟨0, 0, [], List.replicate L 0, cs⟩
theorem runs_ok {cA : Option Addr} {cn cc : Nat} {L : Nat} {R Wr ID : Int} {code : List (Nat × Int)} {cs : List Cmp} {seed tick key : Int} (S : Fix) (hS : S = ⟨cA, cn, cc, (L : Nat), R, Wr, ID, seed, tick, key, newI seed tick ID key⟩)
    (hs : soundF (L : Nat) R Wr code = some true) (hc4 : code.length ≤ 4000) (hcn : cn = code.length) (hop : ∀ x, x ∈ code → x.1 < 256) (hl : cs.length ≤ 1000) (hk : ∀ c, c ∈ cs → c.kind < 256) (s0 : 0 ≤ seed) (s1 : seed ≤ 18446744073709551615) (k0 : 0 ≤ key) (k1 : key ≤ 18446744073709551615) (f : Nat) (hf : f ≤ 10000) :
    ∃ r, runF S code f (start L cs) = some r ∧ ∀ W A n cap, PArg W cA cn cc code → XArg W A n cap cs →
      Calls Try.prog 10 #[.agg #[.slice cA cn cc, .int .i64 (L : Nat), .int .u32 R, .int .u32 Wr], .agg #[.int .i64 ID, .slice A n cap], .agg #[.int .u64 seed, .int .i64 tick, .int .u64 key], .int .i64 (f : Nat)] W (Gives W ID (endN r) (endF r) (endC cs r)) := by
  obtain ⟨⟨ds, hd⟩, -, -⟩ := sound_means hs
  have hSn : S.cn = code.length := by rw [hS]; exact hcn
  obtain ⟨r, hr⟩ := run_start S hd hSn f cs
  rw [Int.toNat_natCast] at hr
  refine ⟨r, hr, fun W A n cap hp hx => ?_⟩
  have hL : L ≤ 1000 := by
    unfold soundF at hs
    by_cases h : ((L : Nat) : Int) < 0 ∨ 32 < ((L : Nat) : Int)
    · rw [if_pos h] at hs; cases hs
    · omega
  exact runT ⟨cA, cn, cc, L, R, Wr, ID, A, n, cap, seed, tick, key⟩ cs code f (endN r) (endF r) (endC cs r) hf hL W hx.len hl hx.nil hx.at_ s0 s1 k0 k1 hp.at_ hp.cn hc4 hp.op ⟨hl, hk⟩
    (by
      show (runF ⟨cA, cn, cc, (L : Nat), R, Wr, ID, seed, tick, key, newI seed tick ID key⟩ code f ⟨0, 0, [], List.replicate L 0, cs⟩).map _ = _
      rw [← hS, hr]; rfl) hs
/-- A sound program's number of variables. -/
theorem sound_locals {L R Wr : Int} {code : List (Nat × Int)} (hs : soundF L R Wr code = some true) : ∃ L' : Nat, L = (L' : Nat) ∧ L' ≤ 32 := by
  unfold soundF at hs
  by_cases h : L < 0 ∨ 32 < L
  · rw [if_pos h] at hs; cases hs
  · exact ⟨L.toNat, by omega, by omega⟩
/-- An entity in a box. -/
structure XBox (W : World) (q : Nat) (ID : Int) (A : Option Addr) (c : Nat) (cs : List Cmp) : Prop where
  blk : W.heap[q]? = some (.cells #[.int .i64 ID, .slice A cs.length c] 30 (0, 0))
  at_ : CompsAt W A cs
theorem XBox.below {W W' : World} {q c : Nat} {ID : Int} {A : Option Addr} {cs : List Cmp} (h : XBox W q ID A c cs) (hb : Below W.heap.size W W') : XBox W' q ID A c cs :=
  ⟨(hb.block q (lt_of_block h.blk)).trans h.blk, h.at_.below hb rfl⟩
theorem XBox.new {W : World} {B : Nat} {ID : Int} {A : Option Addr} {c : Nat} {cs : List Cmp} (h : W.ownsRow B 44 5 (.slice A cs.length c) cs.length (comps cs)) : XBox (W.alloc (.cells #[.int .i64 ID, .slice A cs.length c] 30 (0, 0))) W.heap.size ID A c cs := by
  obtain ⟨A', c', e, hc, -⟩ := compsAt_own h
  simp only [Value.slice.injEq, true_and] at e
  obtain ⟨rfl, rfl⟩ := e
  exact ⟨heap_alloc_new W _, hc.alloc _⟩
theorem XBox.facts {W : World} {q c : Nat} {ID : Int} {A : Option Addr} {cs : List Cmp} (h : XBox W q ID A c cs) : W.cell? ⟨q, 0, none⟩ = some (.int .i64 ID) ∧ W.cell? ⟨q, 1, none⟩ = some (.slice A cs.length c) :=
  ⟨(cell_of_block h.blk 0).trans rfl, (cell_of_block h.blk 1).trans rfl⟩
/-- The boxes of a law on runs: the program, the entity, the query. -/
structure LawIn (W : World) (g : Nat) (p0 p1 p2 p3 x0 x1 q0 q1 q2 q3 : Value) : Prop where
  p : W.heap[g]? = some (.cells #[p0, p1, p2, p3] 27 (0, 0))
  x : W.heap[g + 1]? = some (.cells #[x0, x1] 30 (0, 0))
  q : W.heap[g + 2]? = some (.cells #[q0, q1, q2, q3] 35 (0, 0))
theorem LawIn.below {W W' : World} {g : Nat} {p0 p1 p2 p3 x0 x1 q0 q1 q2 q3 : Value} (h : LawIn W g p0 p1 p2 p3 x0 x1 q0 q1 q2 q3) (hb : Below W.heap.size W W') : LawIn W' g p0 p1 p2 p3 x0 x1 q0 q1 q2 q3 :=
  ⟨(hb.block _ (lt_of_block h.p)).trans h.p, (hb.block _ (lt_of_block h.x)).trans h.x, (hb.block _ (lt_of_block h.q)).trans h.q⟩
theorem lawIn_new (w : World) (p0 p1 p2 p3 x0 x1 q0 q1 q2 q3 : Value) : ∃ W, W = ((w.alloc (.cells #[p0, p1, p2, p3] 27 (0, 0))).alloc (.cells #[x0, x1] 30 (0, 0))).alloc (.cells #[q0, q1, q2, q3] 35 (0, 0)) ∧
    LawIn W w.heap.size p0 p1 p2 p3 x0 x1 q0 q1 q2 q3 ∧ Below w.heap.size w W := by
  refine ⟨_, rfl, ⟨?_, ?_, ?_⟩, (((Below.refl _ _).alloc (Nat.le_refl _) _).alloc (by simp) _).alloc (by simp; omega) _⟩
  · exact (Below.heap_alloc _ _ _ (by simp only [World.size_alloc]; omega)).trans (heap_alloc_fst w _ _)
  · exact (Below.heap_alloc _ _ _ (by simp only [World.size_alloc]; omega)).trans (heap_alloc_snd w _ _)
  · have := heap_alloc_new ((w.alloc (.cells #[p0, p1, p2, p3] 27 (0, 0))).alloc (.cells #[x0, x1] 30 (0, 0))) (.cells #[q0, q1, q2, q3] 35 (0, 0))
    simpa using this
theorem LawIn.facts {W : World} {g : Nat} {p0 p1 p2 p3 x0 x1 q0 q1 q2 q3 : Value} (h : LawIn W g p0 p1 p2 p3 x0 x1 q0 q1 q2 q3) :
    (W.cell? ⟨g, 0, none⟩ = some p0 ∧ W.cell? ⟨g, 1, none⟩ = some p1 ∧ W.cell? ⟨g, 2, none⟩ = some p2 ∧ W.cell? ⟨g, 3, none⟩ = some p3) ∧ (W.cell? ⟨g + 1, 0, none⟩ = some x0 ∧ W.cell? ⟨g + 1, 1, none⟩ = some x1) ∧
    (W.cell? ⟨g + 1 + 1, 0, none⟩ = some q0 ∧ W.cell? ⟨g + 1 + 1, 1, none⟩ = some q1 ∧ W.cell? ⟨g + 1 + 1, 2, none⟩ = some q2 ∧ W.cell? ⟨g + 1 + 1, 3, none⟩ = some q3) :=
  ⟨⟨(cell_of_block h.p 0).trans rfl, (cell_of_block h.p 1).trans rfl, (cell_of_block h.p 2).trans rfl, (cell_of_block h.p 3).trans rfl⟩, ⟨(cell_of_block h.x 0).trans rfl, (cell_of_block h.x 1).trans rfl⟩, ⟨(cell_of_block h.q 0).trans rfl, (cell_of_block h.q 1).trans rfl, (cell_of_block h.q 2).trans rfl, (cell_of_block h.q 3).trans rfl⟩⟩
end
end Go.Proofs.Ytocbddajakbemaa
namespace Go.Proofs.Ytocbddajakbemaa
section
open Go.ChangeShapes Go.WideShapes Go.ChangeAt Go.RowKit Go.Deep Go.Joins

theorem list5 {α : Type} {l : List α} (h : l.length = 5) : ∃ a b c d e, l = [a, b, c, d, e] := by
  match l, h with
  | [a, b, c, d, e], _ => exact ⟨a, b, c, d, e, rfl⟩
def cellV (w : World) (a : Addr) : Int := match w.cell? a with | some v => numV v | none => 0
theorem cellV_eq {w : World} {a : Addr} {k : IntKind} {n : Int} (h : w.cell? a = some (.int k n)) : cellV w a = n := by unfold cellV; rw [h]; rfl
section
variable {H : Type} {enc : TypeId × Value → H} {w : World}
theorem open_comps {a : Option Addr} {len cap : Nat} {d : DataW H} {p : List MemPlace} (h : DataW.Trod enc Try.prog w 0 (fun _ => true) true 28 (.slice a len cap) d p) : ∃ cs, XArg w a len cap cs := by
  obtain ⟨fuel, hf⟩ := h
  rcases open_slice Try.underlying28 hf with ⟨hcs, _⟩ | ⟨x, l, c, m, n, D, Pl, hcs, _, hl, hm, hmm, _, hi⟩
  · simp [Value.cells] at hcs
    obtain ⟨rfl, rfl, rfl⟩ := hcs
    exact ⟨[], rfl, fun j u hu => by simp [comps] at hu, fun c hc => by simp at hc, fun _ => ⟨rfl, rfl⟩⟩
  · simp [Value.cells] at hcs
    obtain ⟨rfl, rfl, rfl⟩ := hcs
    have hC : Try.prog.cellsOf 44 = 5 := by kernel_rfl
    have hI : Try.prog.cellsOf 3 = 1 := by kernel_rfl
    have hU : Try.prog.cellsOf 5 = 1 := by kernel_rfl
    have hV : Try.prog.cellsOf 42 = 4 := by kernel_rfl
    have key : ∀ i, i < len → ∃ (k : Nat) (v0 v1 v2 v3 : Int), k < 256 ∧ w.cell? (x.add (i * 5)) = some (.int .u8 (k : Nat)) ∧ w.cell? (x.add (i * 5 + 1)) = some (.int .i64 v0) ∧ w.cell? (x.add (i * 5 + 2)) = some (.int .i64 v1) ∧ w.cell? (x.add (i * 5 + 3)) = some (.int .i64 v2) ∧ w.cell? (x.add (i * 5 + 4)) = some (.int .i64 v3) := by
      intro i him
      obtain ⟨cs', hc, htr⟩ := hi i (by simp at hmm; omega)
      rw [hC] at hc
      obtain ⟨_, hcl, hat⟩ := World.cells?_some hc
      obtain ⟨c0, c1, c2, c3, c4, rfl⟩ := list5 hcl
      obtain ⟨y0, y1, n', _, _, h0, h1⟩ := trod_struct2 Try.underlying44 htr
      have h0' : DataW.trod enc Try.prog w 0 (fun _ => true) true n' 5 [c0] = some y0 := by
        have := h0
        simp only [hU] at this
        exact this
      have h1' : DataW.trod enc Try.prog w 0 (fun _ => true) true n' 42 [c1, c2, c3, c4] = some y1 := by
        have := h1
        simp only [hV] at this
        exact this
      obtain ⟨k, hk, _, hwk⟩ := DataW.trod_int Try.underlying5 h0'
      injection hk with hk
      obtain ⟨xs, m', _, _, _, hxl, hxi⟩ := DataW.trod_array Try.underlying42 h1'
      rw [hI] at hxi
      have g0 := hxi 0 (by omega)
      have g1 := hxi 1 (by omega)
      have g2 := hxi 2 (by omega)
      have g3 := hxi 3 (by omega)
      rw [List.getElem?_eq_getElem (by omega)] at g0 g1 g2 g3
      obtain ⟨v0, e0, _, _⟩ := DataW.trod_int Try.underlying3 g0
      obtain ⟨v1, e1, _, _⟩ := DataW.trod_int Try.underlying3 g1
      obtain ⟨v2, e2, _, _⟩ := DataW.trod_int Try.underlying3 g2
      obtain ⟨v3, e3, _, _⟩ := DataW.trod_int Try.underlying3 g3
      have bk := bounds_u8 hwk
      have e0 : c1 = .int .i64 v0 := by simpa using e0
      have e1 : c2 = .int .i64 v1 := by simpa using e1
      have e2 : c3 = .int .i64 v2 := by simpa using e2
      have e3 : c4 = .int .i64 v3 := by simpa using e3
      have a0 := hat 0 (by omega)
      have a1 := hat 1 (by omega)
      have a2 := hat 2 (by omega)
      have a3 := hat 3 (by omega)
      have a4 := hat 4 (by omega)
      rw [Go.Deep.add_add] at a0 a1 a2 a3 a4
      refine ⟨k.toNat, v0, v1, v2, v3, by omega, ?_, ?_, ?_, ?_, ?_⟩
      · rw [Int.toNat_of_nonneg bk.1, ← hk]; exact a0
      · rw [← e0]; exact a1
      · rw [← e1]; exact a2
      · rw [← e2]; exact a3
      · rw [← e3]; exact a4
    let f : Nat → Cmp := fun i => ⟨(cellV w (x.add (i * 5))).toNat, cellV w (x.add (i * 5 + 1)), cellV w (x.add (i * 5 + 2)), cellV w (x.add (i * 5 + 3)), cellV w (x.add (i * 5 + 4))⟩
    have hfi : ∀ i, i < len → (f i).kind < 256 ∧ ∀ k u, (f i).cells[k]? = some u → w.cell? (x.add (i * 5 + k)) = some u := by
      intro i him
      obtain ⟨k, v0, v1, v2, v3, hk, c0, c1, c2, c3, c4⟩ := key i him
      have ef : f i = ⟨k, v0, v1, v2, v3⟩ := by
        show Cmp.mk _ _ _ _ _ = _
        rw [cellV_eq c0, cellV_eq c1, cellV_eq c2, cellV_eq c3, cellV_eq c4, Int.toNat_natCast]
      rw [ef]
      refine ⟨hk, fun j u hu => ?_⟩
      match j, hu with
      | 0, hu => obtain rfl := Option.some.inj (show some (Value.int .u8 (k : Int)) = some u from hu); exact c0
      | 1, hu => obtain rfl := Option.some.inj (show some (Value.int .i64 v0) = some u from hu); exact c1
      | 2, hu => obtain rfl := Option.some.inj (show some (Value.int .i64 v1) = some u from hu); exact c2
      | 3, hu => obtain rfl := Option.some.inj (show some (Value.int .i64 v2) = some u from hu); exact c3
      | 4, hu => obtain rfl := Option.some.inj (show some (Value.int .i64 v3) = some u from hu); exact c4
      | j + 5, hu => simp [Cmp.cells] at hu
    refine ⟨(List.range len).map f, by simp, fun j u hu => ⟨x, rfl, ?_⟩, ?_, fun e => by cases e⟩
    · have hj : j < ((List.range len).map f).length * 5 := by
        have := (List.getElem?_eq_some_iff.1 hu).1
        rwa [comps_length] at this
      rw [List.length_map, List.length_range] at hj
      have hd : j = j / 5 * 5 + j % 5 := by omega
      have hm : j % 5 < 5 := Nat.mod_lt _ (by omega)
      have hq : j / 5 < len := by omega
      have hget : ((List.range len).map f)[j / 5]? = some (f (j / 5)) := by simp [hq]
      rw [hd, comps_at hget _ hm] at hu
      rw [hd]
      exact (hfi _ hq).2 _ _ hu
    · intro c hc
      simp only [List.mem_map, List.mem_range] at hc
      obtain ⟨i, hi, rfl⟩ := hc
      exact (hfi i hi).1
theorem isRecs_code {a : Option Addr} {len cap : Nat} {z : Nat → Nat → Int} (h : IsRecs [.u8, .i64] w a len cap z) : ∃ code, PArg w a len cap code := by
  rcases h with ⟨rfl, rfl, rfl⟩ | ⟨x, rfl, hl, hm, hz⟩
  · exact ⟨[], rfl, fun c hc => by simp at hc, fun i c hi => by simp at hi⟩
  · refine ⟨(List.range len).map fun i => ((z i 0).toNat, z i 1), by simp, ?_, ?_⟩
    · intro c hc
      simp only [List.mem_map, List.mem_range] at hc
      obtain ⟨i, hi, rfl⟩ := hc
      have := bounds_u8 (hz i 0 .u8 hi rfl).2
      show (z i 0).toNat < 256
      omega
    · intro i c hc
      have hi : i < len := by have := (List.getElem?_eq_some_iff.1 hc).1; simpa using this
      have hc2 : c = ((z i 0).toNat, z i 1) := by
        rw [List.getElem?_map, List.getElem?_range hi] at hc
        exact (Option.some.inj hc).symm
      have h00 := (hz 0 0 .u8 (by omega) rfl).1
      obtain ⟨b, o, sp⟩ := x
      have hs := World.cell?_spot h00
      simp [Addr.add] at hs
      subst hs
      have ea : ∀ j, Addr.add ⟨b, o, none⟩ j = ⟨b, o + j, none⟩ := fun j => by
        unfold Addr.add
        split
        · rename_i h0; rw [h0]; rfl
        · rfl
      have k0 := hz i 0 .u8 hi rfl
      have k1 := (hz i 1 .i64 hi rfl).1
      have bk := bounds_u8 k0.2
      rw [ea] at k1
      have k0 := k0.1
      rw [ea] at k0
      refine ⟨b, o, rfl, World.block_lt_of_cell? w _ k0, ?_, ?_⟩
      · rw [hc2]
        show w.cell? ⟨b, o + i * 2, none⟩ = some (.int .u8 ((z i 0).toNat : Int))
        rw [Int.toNat_of_nonneg bk.1]
        exact k0
      · rw [hc2]; exact k1
set_option maxRecDepth 100000 in
theorem open_prog {r : Reach} {b0 : Nat} {v : Value} {d : DataW H} {p : List MemPlace} (hv : Value.okWide Try.prog w r b0 27 v) (h : DataW.Trod enc Try.prog w 0 (fun _ => true) true 27 v d p) :
    ∃ cA cn cc L R Wr code, v = .agg #[.slice cA cn cc, .int .i64 L, .int .u32 R, .int .u32 Wr] ∧ PArg w cA cn cc code ∧ (Lit.int .i64 L).wf = true ∧ (Lit.int .u32 R).wf = true ∧ (Lit.int .u32 Wr).wf = true := by
  obtain ⟨v0, v1, v2, v3, y0, y1, y2, y3, n, rfl, _, _, g0, g1, g2, g3⟩ := open_agg4 Try.underlying27 (by kernel_rfl) (by kernel_rfl) hv h
  obtain ⟨L, e1, _, w1⟩ := DataW.trod_int Try.underlying3 g1
  obtain ⟨R, e2, _, w2⟩ := DataW.trod_int Try.underlying25 g2
  obtain ⟨Wr, e3, _, w3⟩ := DataW.trod_int Try.underlying25 g3
  injection e1 with e1; injection e2 with e2; injection e3 with e3
  subst e1 e2 e3
  have hsl : ∃ a l c, v0 = .slice a l c := by
    rcases open_slice Try.underlying24 g0 with ⟨hcs, _⟩ | ⟨x, l, c, _, _, _, _, hcs, _⟩
    · injection hcs with hcs; exact ⟨_, _, _, hcs⟩
    · injection hcs with hcs; exact ⟨_, _, _, hcs⟩
  obtain ⟨a, l, c, rfl⟩ := hsl
  obtain ⟨z, hz⟩ := open_recs (ks := [.u8, .i64]) (d := y0.1) (p := y0.2) Try.underlying24 Try.underlying72 (by kernel_rfl) (by kernel_rfl) rfl (by
      intro j k hj
      have hl : j < 2 := (List.getElem?_eq_some_iff.1 hj).1
      rcases (show j = 0 ∨ j = 1 from by omega) with rfl | rfl
      · obtain rfl : k = .u8 := (Option.some.inj hj).symm
        exact ⟨_, rfl, Try.underlying5⟩
      · obtain rfl : k = .i64 := (Option.some.inj hj).symm
        exact ⟨_, rfl, Try.underlying3⟩) ⟨n, by simpa [Value.cells] using g0⟩
  obtain ⟨code, hp⟩ := isRecs_code hz
  exact ⟨a, l, c, L, R, Wr, code, rfl, hp, w1, w2, w3⟩
set_option maxRecDepth 100000 in
theorem open_ent {r : Reach} {b0 : Nat} {v : Value} {d : DataW H} {p : List MemPlace} (hv : Value.okWide Try.prog w r b0 30 v) (h : DataW.Trod enc Try.prog w 0 (fun _ => true) true 30 v d p) :
    ∃ ID A n cap cs, v = .agg #[.int .i64 ID, .slice A n cap] ∧ XArg w A n cap cs ∧ (Lit.int .i64 ID).wf = true := by
  obtain ⟨v0, v1, y0, y1, n, rfl, _, _, g0, g1⟩ := open_agg2 Try.underlying30 (by kernel_rfl) (by kernel_rfl) hv h
  obtain ⟨ID, e1, _, w1⟩ := DataW.trod_int Try.underlying3 g0
  injection e1 with e1
  subst e1
  have hsl : ∃ a l c, v1 = .slice a l c := by
    rcases open_slice Try.underlying28 g1 with ⟨hcs, _⟩ | ⟨x, l, c, _, _, _, _, hcs, _⟩
    · injection hcs with hcs; exact ⟨_, _, _, hcs⟩
    · injection hcs with hcs; exact ⟨_, _, _, hcs⟩
  obtain ⟨a, l, c, rfl⟩ := hsl
  obtain ⟨cs, hx⟩ := open_comps (d := y1.1) (p := y1.2) ⟨n, by simpa [Value.cells] using g1⟩
  exact ⟨ID, a, l, c, cs, rfl, hx, w1⟩
theorem open_env3 {c0 c1 c2 : Value} {n : Nat} {y : DataW H × List MemPlace} (h : DataW.trod enc Try.prog w 0 (fun _ => true) true n 33 [c0, c1, c2] = some y) :
    ∃ seed tick key, c0 = .int .u64 seed ∧ c1 = .int .i64 tick ∧ c2 = .int .u64 key ∧ (Lit.int .u64 seed).wf = true ∧ (Lit.int .i64 tick).wf = true ∧ (Lit.int .u64 key).wf = true := by
  have h1 : Try.prog.cellsOf 31 = 1 := by kernel_rfl
  have h2 : Try.prog.cellsOf 3 = 1 := by kernel_rfl
  obtain ⟨y0, y1, y2, m, _, _, g0, g1, g2⟩ := trod_struct3 Try.underlying33 h
  simp only [h1, h2] at g0 g1 g2
  obtain ⟨s, e0, _, w0⟩ := DataW.trod_int Try.underlying31 g0
  obtain ⟨t, e1, _, w1⟩ := DataW.trod_int Try.underlying3 g1
  obtain ⟨k, e2, _, w2⟩ := DataW.trod_int Try.underlying31 g2
  exact ⟨s, t, k, by simpa using e0, by simpa using e1, by simpa using e2, w0, w1, w2⟩
set_option maxRecDepth 100000 in
theorem open_query {r : Reach} {b0 : Nat} {v : Value} {d : DataW H} {p : List MemPlace} (hv : Value.okWide Try.prog w r b0 35 v) (h : DataW.Trod enc Try.prog w 0 (fun _ => true) true 35 v d p) :
    ∃ seed tick key qf, v = .agg #[.int .u64 seed, .int .i64 tick, .int .u64 key, .int .i64 qf] ∧ (Lit.int .u64 seed).wf = true ∧ (Lit.int .i64 tick).wf = true ∧ (Lit.int .u64 key).wf = true ∧ (Lit.int .i64 qf).wf = true := by
  have hC : Try.prog.cellsOf 35 = 4 := by kernel_rfl
  have hE : Try.prog.cellsOf 33 = 3 := by kernel_rfl
  have hI : Try.prog.cellsOf 3 = 1 := by kernel_rfl
  obtain ⟨cs, rfl, hsz⟩ := okWide_struct Try.underlying35 hv
  obtain ⟨c0, c1, c2, c3, rfl⟩ := array4 (hsz.trans hC)
  obtain ⟨fuel, hf⟩ := h
  obtain ⟨y0, y1, n, _, _, h0, h1⟩ := trod_struct2 Try.underlying35 hf
  simp only [hE, hI] at h0 h1
  obtain ⟨s, t, k, rfl, rfl, rfl, ws, wt, wk⟩ := open_env3 (c0 := c0) (c1 := c1) (c2 := c2) (by simpa [Value.cells] using h0)
  obtain ⟨q, e, _, wq⟩ := DataW.trod_int Try.underlying3 h1
  have e : c3 = .int .i64 q := by simpa [Value.cells] using e
  exact ⟨s, t, k, q, by rw [e], ws, wt, wk, wq⟩
end
end
end Go.Proofs.Ytocbddajakbemaa
