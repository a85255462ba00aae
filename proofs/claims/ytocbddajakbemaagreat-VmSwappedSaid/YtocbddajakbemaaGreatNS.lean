/- vm: a run leaves the kinds of components as they are; Run in the laws: any sound program. -/
import Derived.Test.YtocbddajakbemaaGreatMG
import Derived.Test.YtocbddajakbemaaGreatMT
set_option linter.unusedVariables false
set_option linter.unusedSimpArgs false
set_option linter.unusedSimpArgs false
namespace Go.Proofs.YtocbddajakbemaaGreat
section
open Go.RowKit
def kinds (cs : List Cmp) : List Nat := cs.map Cmp.kind
theorem kinds_set {cs : List Cmp} {i : Nat} {c c' : Cmp} (hc : cs[i]? = some c) (hk : c'.kind = c.kind) : kinds (cs.set i c') = kinds cs := by
  have hlt := (List.getElem?_eq_some_iff.1 hc).1
  unfold kinds
  rw [List.map_set]
  apply List.ext_getElem?
  intro j
  by_cases h : i = j
  · subst h
    rw [List.getElem?_set_self (by simpa using hlt), List.getElem?_map, hc]
    simp [hk]
  · rw [List.getElem?_set_ne h]
theorem deed_kinds {S : Fix} {op : Nat} {a : Int} {σ σ' : Mst} (hr : deedF S op a σ = some (.ok σ')) : kinds σ'.cs = kinds σ.cs := by
  unfold deedF at hr
  split at hr
  · cases hr
  · (repeat' split at hr) <;> first | (cases hr; done) | (injection hr with hr; injection hr with hr; subst hr; first | rfl | exact kinds_set (by assumption) (put_kind _ _ _))
theorem run_kinds {S : Fix} {code : List (Nat × Int)} : ∀ (f : Nat) (σ : Mst) (r : Except (Nat × Nat) (Nat × Mst)), runF S code f σ = some r → kinds (endC σ.cs r) = kinds σ.cs := by
  intro f
  induction f with
  | zero =>
    intro σ r h
    rw [runF.eq_def] at h
    simp only at h
    repeat' split at h
    all_goals first | (cases h; done) | (injection h with h; subst h; rfl)
  | succ f ih =>
    intro σ r h
    rw [runF.eq_def] at h
    simp only at h
    (repeat' split at h)
    all_goals first | (cases h; done) | (injection h with h; subst h; rfl) | skip
    rename_i hd
    have h1 := ih _ _ h
    have h2 := deed_kinds hd
    rcases r with r | r
    · rfl
    · exact h1.trans h2
theorem run_length {S : Fix} {code : List (Nat × Int)} {f L : Nat} {cs : List Cmp} {r : Except (Nat × Nat) (Nat × Mst)} (h : runF S code f ⟨0, 0, [], List.replicate L 0, cs⟩ = some r) : (endC cs r).length = cs.length := by
  have := congrArg List.length (run_kinds _ _ _ h)
  simpa [kinds] using this
structure PArg (w : World) (cA : Option Addr) (cn cc : Nat) (code : List (Nat × Int)) : Prop where
  cn : cn = code.length
  op : ∀ x, x ∈ code → x.1 < 256
  at_ : CodeAt w w.heap.size cA code
theorem PArg.below {w W : World} {cA : Option Addr} {cn cc : Nat} {code : List (Nat × Int)} (h : PArg w cA cn cc code) (hb : Below w.heap.size w W) : PArg W cA cn cc code :=
  ⟨h.cn, h.op, (h.at_.below hb).mono hb.size⟩
structure XArg (w : World) (A : Option Addr) (n cap : Nat) (cs : List Cmp) : Prop where
  len : n = cs.length
  at_ : CompsAt w A cs
  kind : ∀ c, c ∈ cs → c.kind < 256
  nil : A = none → n = 0 ∧ cap = 0
theorem XArg.below {w W : World} {A : Option Addr} {n cap : Nat} {cs : List Cmp} (h : XArg w A n cap cs) (hb : Below w.heap.size w W) : XArg W A n cap cs :=
  ⟨h.len, h.at_.below hb rfl, h.kind, h.nil⟩
def start (L : Nat) (cs : List Cmp) : Mst := ⟨0, 0, [], List.replicate L 0, cs⟩
theorem runs_ok {cA : Option Addr} {cn cc : Nat} {L : Nat} {R Wr ID : Int} {code : List (Nat × Int)} {cs : List Cmp} {seed tick key : Int} (S : Fix) (hS : S = ⟨cA, cn, cc, (L : Nat), R, Wr, ID, seed, tick, key, newI seed tick ID key⟩)
    (hs : soundF (L : Nat) R Wr code = some true) (hc4 : code.length ≤ 4000) (hcn : cn = code.length) (hop : ∀ x, x ∈ code → x.1 < 256) (hl : cs.length ≤ 1000) (hk : ∀ c, c ∈ cs → c.kind < 256) (s0 : 0 ≤ seed) (s1 : seed ≤ 18446744073709551615) (k0 : 0 ≤ key) (k1 : key ≤ 18446744073709551615) (f : Nat) (hf : f ≤ 10000) :
    ∃ r, runF S code f (start L cs) = some r ∧ ∀ W A n cap, PArg W cA cn cc code → XArg W A n cap cs →
      Calls Tryz.prog 15 #[.agg #[.slice cA cn cc, .int .i64 (L : Nat), .int .u32 R, .int .u32 Wr], .agg #[.int .i64 ID, .slice A n cap], .agg #[.int .u64 seed, .int .i64 tick, .int .u64 key], .int .i64 (f : Nat)] W (Gives W ID (endN r) (endF r) (endC cs r)) := by
  obtain ⟨⟨ds, hd⟩, -, -⟩ := sound_means hs
  have hSn : S.cn = code.length := by rw [hS]; exact hcn
  obtain ⟨r, hr⟩ := run_start S hd hSn f cs
  rw [Int.toNat_natCast] at hr
  refine ⟨r, hr, fun W A n cap hp hx => ?_⟩
  have hL : L ≤ 1000 := by
    unfold soundF at hs
    by_cases h : ((L : Nat) : Int) < 0 ∨ 32 < ((L : Nat) : Int)
    · rw [if_pos h] at hs; cases hs
    · omega
  exact runT ⟨cA, cn, cc, L, R, Wr, ID, A, n, cap, seed, tick, key⟩ cs code f (endN r) (endF r) (endC cs r) hf hL W hx.len hl hx.nil hx.at_ s0 s1 k0 k1 hp.at_ hp.cn hc4 hp.op ⟨hl, hk⟩
    (by
      show (runF ⟨cA, cn, cc, (L : Nat), R, Wr, ID, seed, tick, key, newI seed tick ID key⟩ code f ⟨0, 0, [], List.replicate L 0, cs⟩).map _ = _
      rw [← hS, hr]; rfl) hs
structure XBox (W : World) (q : Nat) (ID : Int) (A : Option Addr) (c : Nat) (cs : List Cmp) : Prop where
  blk : W.heap[q]? = some (.cells #[.int .i64 ID, .slice A cs.length c] 25 (0, 0))
  at_ : CompsAt W A cs
theorem XBox.below {W W' : World} {q c : Nat} {ID : Int} {A : Option Addr} {cs : List Cmp} (h : XBox W q ID A c cs) (hb : Below W.heap.size W W') : XBox W' q ID A c cs :=
  ⟨(hb.block q (lt_of_block h.blk)).trans h.blk, h.at_.below hb rfl⟩
theorem XBox.new {W : World} {B : Nat} {ID : Int} {A : Option Addr} {c : Nat} {cs : List Cmp} (h : W.ownsRow B 48 5 (.slice A cs.length c) cs.length (comps cs)) : XBox (W.alloc (.cells #[.int .i64 ID, .slice A cs.length c] 25 (0, 0))) W.heap.size ID A c cs := by
  obtain ⟨A', c', e, hc, -⟩ := compsAt_own h
  simp only [Value.slice.injEq, true_and] at e
  obtain ⟨rfl, rfl⟩ := e
  exact ⟨heap_alloc_new W _, hc.alloc _⟩
theorem XBox.facts {W : World} {q c : Nat} {ID : Int} {A : Option Addr} {cs : List Cmp} (h : XBox W q ID A c cs) : W.cell? ⟨q, 0, none⟩ = some (.int .i64 ID) ∧ W.cell? ⟨q, 1, none⟩ = some (.slice A cs.length c) :=
  ⟨(cell_of_block h.blk 0).trans rfl, (cell_of_block h.blk 1).trans rfl⟩
end
end Go.Proofs.YtocbddajakbemaaGreat
