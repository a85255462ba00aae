/- vm, plain: how long a program's code is. vm, plain: two runs: what VmLoop, VmSwapped say of what was run. vm: the law's own run, both ways in one contract. -/
import Derived.Test.YtocbddajakbemaaGreatNY
import Derived.Test.YtocbddajakbemaaGreatNR
import Derived.Test.YtocbddajakbemaaGreatNT
import Derived.Test.YtocbddajakbemaaGreatNU
set_option linter.unusedVariables false
set_option linter.unusedSimpArgs false
set_option linter.unusedSimpArgs false
namespace Go.Proofs.YtocbddajakbemaaGreat
section
open Go.RowKit
theorem rowC_len (f : E0 → Nat → List (Nat × Int)) (h : ∀ x b, (f x b).length ≤ 4 * szE x) : ∀ (l : List E0) (b : Nat), (rowC f l b).length ≤ 4 * szEs l
  | [], b => by simp [rowC, szEs]
  | x :: l, b => by
    have h1 := h x b
    have h2 := rowC_len f h l (b + (f x b).length)
    simp only [rowC, szEs, List.length_append]
    omega
theorem exprC_len (ν : List ByteArray) : ∀ (n : Nat) (x : E0) (b : Nat), (exprC ν n x b).length ≤ 4 * szE x := by
  intro n
  induction n with
  | zero => intro x b; simp [exprC]
  | succ n ih =>
    intro x b
    have hz : szE x = 1 + x.nm.size / 30 + szEs x.args := by cases x; simp only [szE]; rfl
    rw [hz]
    have hr := rowC_len (exprC ν n) ih x.args b
    unfold exprC
    generalize x.args = args at *
    obtain ⟨op, eo⟩ : ∃ op, op = x.op := ⟨_, rfl⟩
    rw [← eo]
    clear hz
    by_cases q1 : op = 1
    · rw [if_pos q1]; simp; omega
    · rw [if_neg q1]
      by_cases q2 : op = 2
      · rw [if_pos q2]; simp; omega
      · rw [if_neg q2]
        by_cases q4 : op = 4
        · rw [if_pos q4]; simp; omega
        · rw [if_neg q4]
          by_cases q5 : op = 5
          · rw [if_pos q5]; simp; omega
          · rw [if_neg q5]
            by_cases q6 : op = 21 ∨ op = 22
            · rw [if_pos q6]
              rcases args with _ | ⟨a, _ | ⟨c, _ | ⟨d, args⟩⟩⟩
              · simp
              · simp
              · have h1 := ih a b
                have h2 := ih c (b + (exprC ν n a b).length + 1)
                simp only [List.length_append, List.length_cons, List.length_nil, szEs]
                omega
              · simp
            · rw [if_neg q6]
              simp only [List.length_append, List.length_cons, List.length_nil]
              omega
theorem listC_len (f : S0 → List ByteArray → Nat → List (Nat × Int)) (h : ∀ s ν b, (f s ν b).length ≤ 4 * szS s) : ∀ (l : List S0) (ν : List ByteArray) (b : Nat), (listC f l ν b).length ≤ 4 * szSs l
  | [], ν, b => by simp [listC, szSs]
  | s :: l, ν, b => by
    have h1 := h s ν b
    have h2 := listC_len f h l (nextV s ν) (b + (f s ν b).length)
    simp only [listC, szSs, List.length_append]
    omega
theorem stmtC_len : ∀ (n : Nat) (s : S0) (ν : List ByteArray) (b : Nat), (stmtC n s ν b).length ≤ 4 * szS s := by
  intro n
  induction n with
  | zero => intro s ν b; simp [stmtC]
  | succ n ih =>
    intro s ν b
    have hz : szS s = 1 + s.nm.size / 30 + szEs s.e + szSs s.b + szSs s.els := by cases s; simp only [szS]; rfl
    rw [hz]
    clear hz
    unfold stmtC
    generalize s.e = es at *
    generalize s.b = bb at *
    generalize s.els = ll at *
    obtain ⟨op, eo⟩ : ∃ op, op = s.op := ⟨_, rfl⟩
    rw [← eo]
    have hr := rowC_len (exprC ν 40) (exprC_len ν 40) es b
    have hb := fun b' => listC_len (stmtC n) ih bb ν b'
    have hl := fun b' => listC_len (stmtC n) ih ll ν b'
    have h1 := hb (b + (rowC (exprC ν 40) es b).length + 1)
    have h2 := hl (b + (rowC (exprC ν 40) es b).length + 1 + (listC (stmtC n) bb ν (b + (rowC (exprC ν 40) es b).length + 1)).length + 1)
    generalize (rowC (exprC ν 40) es b) = R at *
    rw [List.length_append]
    by_cases q1 : op = 1
    · rw [if_pos q1]; simp; omega
    · rw [if_neg q1]
      by_cases q2 : op = 2
      · rw [if_pos q2]; simp; omega
      · rw [if_neg q2]
        by_cases q3 : op = 3
        · rw [if_pos q3]; simp; omega
        · rw [if_neg q3]
          by_cases q4 : op = 4
          · rw [if_pos q4]
            by_cases qe : ll = []
            · rw [if_pos qe]; simp only [List.length_cons]; omega
            · rw [if_neg qe]; simp only [List.length_cons, List.length_append]; omega
          · rw [if_neg q4]
            by_cases q5 : op = 5
            · rw [if_pos q5]; simp only [List.length_cons, List.length_append, List.length_nil]; omega
            · rw [if_neg q5]
              by_cases q6 : op = 6
              · rw [if_pos q6]; simp; omega
              · rw [if_neg q6]
                have : (if op = 7 then [((15 : Nat), (0 : Int))] else []).length ≤ 1 := by by_cases q7 : op = 7 <;> simp [q7]
                omega
theorem codeP_len (l : List S0) : (codeP l).length ≤ 4 * szSs l := listC_len _ (stmtC_len 40) l [] 0
end
end Go.Proofs.YtocbddajakbemaaGreat
set_option linter.unusedSimpArgs false
namespace Go.Proofs.YtocbddajakbemaaGreat
section
open Go.RowKit
theorem deed_errZ {S : Fix} {op : Nat} {a : Int} {σ : Mst} {n : Nat} (h : deedF S op a σ = some (.error n)) : n ≠ 0 := by
  unfold deedF at h
  split at h
  · cases h
  · (repeat' split at h)
    all_goals first
      | (cases h; done)
      | (injection h with h; injection h with h; subst h; first | decide | assumption)
theorem run_errZ {S : Fix} {code : List (Nat × Int)} : ∀ (f : Nat) (σ : Mst) (n g : Nat), runF S code f σ = some (.error (n, g)) → n ≠ 0 := by
  intro f
  induction f with
  | zero =>
    intro σ n g h
    rw [runF.eq_def] at h
    simp only at h
    repeat' split at h
    all_goals first | (cases h; done) | (injection h with h; injection h with h; injection h with h h2; omega)
  | succ f ih =>
    intro σ n g h
    rw [runF.eq_def] at h
    simp only at h
    (repeat' split at h)
    all_goals first | (cases h; done) | skip
    · rename_i hd
      injection h with h; injection h with h; injection h with h h2
      subst h
      exact deed_errZ hd
    · exact ih _ _ _ h
def RunOf (l : List S0) (ID seed tick key : Int) (cs : List Cmp) (n : Nat) (c : List Cmp) : Prop :=
  ∃ r, okP l = true ∧ runF (fixP l ID seed tick key) (codeP l) 10000 (start (localsP l) cs) = some r ∧ endN r = n ∧ endC cs r = c
theorem RunOf.ok {l : List S0} {ID seed tick key : Int} {cs c : List Cmp} {n : Nat} (h : RunOf l ID seed tick key cs n c) : okP l = true := by
  obtain ⟨r, h, -⟩ := h
  exact h
theorem RunOf.length {l : List S0} {ID seed tick key : Int} {cs c : List Cmp} {n : Nat} (h : RunOf l ID seed tick key cs n c) : c.length = cs.length := by
  obtain ⟨r, -, hr, -, rfl⟩ := h
  exact run_length hr
theorem RunOf.kind {l : List S0} {ID seed tick key : Int} {cs c : List Cmp} {n : Nat} (h : RunOf l ID seed tick key cs n c) (hk : ∀ x, x ∈ cs → x.kind < 256) : ∀ x, x ∈ c → x.kind < 256 := by
  obtain ⟨r, -, hr, -, rfl⟩ := h
  have e := run_kinds _ _ _ hr
  intro x hx
  have hx : x.kind ∈ kinds (endC cs r) := List.mem_map_of_mem hx
  have hx : x.kind ∈ kinds cs := by
    have e2 : kinds (endC cs r) = kinds cs := e
    rwa [e2] at hx
  obtain ⟨y, hy, ey⟩ := List.mem_map.1 hx
  rw [← ey]; exact hk y hy
theorem RunOf.does {l : List S0} {ID seed tick key : Int} {cs c : List Cmp} {n : Nat} (h : RunOf l ID seed tick key cs n c) (hn : n ≠ 145) :
    ∃ o, Does (envP ID seed tick key) l ⟨[], [], 0, cs⟩ o ∧ n = outN o ∧ c = outC cs o ∧ ∀ k, o = .err k → k ≠ 0 := by
  obtain ⟨r, hok, hr, rfl, rfl⟩ := h
  have K := okP_use hok
  obtain ⟨o, d1, d2⟩ := list_run (fixP l ID seed tick key) (codeP l) rfl 10000 l 40 [] [] 0 (start (localsP l) cs) K.right K.good (fun j x hj => by rw [Nat.zero_add]; exact hj) rfl rfl ⟨rfl, fun i v hi => by simp at hi⟩ r hr hn
  refine ⟨o, d1, ?_⟩
  rw [Nat.zero_add] at d2
  rcases o with st | c | n
  · obtain ⟨-, F', σ, -, g2, -, -, -, g6, g7⟩ := d2
    have g2 : σ.at_ = (((codeP l).length : Nat) : Int) := g2
    rw [runF.eq_def] at g7
    simp only at g7
    rw [if_neg (by omega), if_pos (by omega)] at g7
    injection g7 with g7
    subst g7
    exact ⟨rfl, g6, fun k e => by cases e⟩
  · obtain ⟨f, σ, rfl, e⟩ := d2
    exact ⟨rfl, e, fun k e => by cases e⟩
  · obtain ⟨f, rfl⟩ := d2
    refine ⟨rfl, rfl, fun k e => ?_⟩
    injection e with e
    subst e
    exact run_errZ _ _ _ _ hr
def unrollF : List S0 → List S0
  | [] => []
  | s :: l => if s.op = 5 then unrollS s :: l else s :: unrollF l
theorem unrollF_does {N : Env0} : ∀ (l : List S0) (st : Pst) (o : Out), Does N l st o → Does N (unrollF l) st o := by
  intro l
  induction l with
  | nil => intro st o h; exact h
  | cons s l ih =>
    intro st o h
    unfold unrollF
    by_cases c : s.op = 5
    · rw [if_pos c]; exact unroll_does c st o h
    · rw [if_neg c]
      obtain ⟨n, h⟩ := h
      rcases n with _ | n
      · rw [exL] at h; cases h
      exact cons_congr h (fun st o h => ih st o ⟨n, h⟩) (fun e => absurd e c)
theorem RunOf.eq {l m : List S0} {ID seed tick key : Int} {cs c c1 : List Cmp} {n n1 : Nat} (hd : ∀ o, Does (envP ID seed tick key) l ⟨[], [], 0, cs⟩ o → Does (envP ID seed tick key) m ⟨[], [], 0, cs⟩ o) (h : RunOf l ID seed tick key cs n c) (h1 : RunOf m ID seed tick key cs n1 c1) (hn : n ≠ 145) (hn1 : n1 ≠ 145) : n = n1 ∧ c = c1 := by
  obtain ⟨o, d, rfl, rfl, -⟩ := h.does hn
  obtain ⟨o1, d1, rfl, rfl, -⟩ := h1.does hn1
  have e := (hd o d).one d1
  subst e
  exact ⟨rfl, rfl⟩
theorem loop_same {l : List S0} {ID seed tick key : Int} {cs c c1 : List Cmp} {n n1 : Nat} (h : RunOf l ID seed tick key cs n c) (h1 : RunOf (unrollF l) ID seed tick key cs n1 c1) (hn : n ≠ 145) (hn1 : n1 ≠ 145) : n = n1 ∧ c = c1 :=
  h.eq (fun o d => unrollF_does l _ o d) h1 hn hn1
theorem right_if {s : S0} {t : E0} (h : rightS 40 s = true) (c : s.op = 4) (he : s.e = [t]) : fineB 40 t = true := by
  rw [rightS, Bool.and_eq_true, Bool.and_eq_true, List.all_eq_true] at h
  exact h.2.1 t (by rw [he]; simp)
theorem swap_same {l : List S0} {ID seed tick key : Int} {cs c c1 : List Cmp} {n n1 : Nat} (h : RunOf l ID seed tick key cs n c) (h1 : RunOf (l.map flipS) ID seed tick key cs n1 c1) (hn : n ≠ 145) (hn1 : n1 ≠ 145) : n = n1 ∧ c = c1 := by
  refine h.eq (fun o d => ?_) h1 hn hn1
  obtain ⟨x, d⟩ := d
  refine flip_does x l (fun s hs t c he => ⟨right_if ((okP_use h.ok).right s hs) c he, ?_⟩) _ _ d
  have h2 := (okP_use h1.ok).right (flipS s) (List.mem_map_of_mem hs)
  have e : flipS s = .mk 4 s.n s.nm [notE t] s.els s.b := by unfold flipS; rw [he]; simp only [c, if_true]
  rw [e] at h2
  exact right_if h2 rfl rfl
end
end Go.Proofs.YtocbddajakbemaaGreat
set_option linter.unusedSimpArgs false
namespace Go.Proofs.YtocbddajakbemaaGreat
section
open Go.RowKit
def RunY (l : List S0) (ID seed tick key : Int) (cs : List Cmp) (er : Int) (c : List Cmp) : Prop := ∃ N : Nat, er = ((N : Nat) : Int) ∧ N ≠ 145 ∧ RunOf l ID seed tick key cs N c
def LrunR (w : World) (l : List S0) (ID seed tick key : Int) (cs : List Cmp) (e : Ending) (w' : World) : Prop :=
  ∃ (ID' : Int) (A' : Option Addr) (n' cap' : Nat) (er : Int) (ok : Bool) (c : List Cmp), e = .returned (.tuple #[.agg #[.int .i64 ID', .slice A' n' cap'], .int .i64 er, .bool ok]) ∧
    (ok = true → ID' = ID ∧ n' = c.length ∧ RunY l ID seed tick key cs er c ∧ CompsAt w' A' c ∧ (A' = none → n' = 0 ∧ cap' = 0)) ∧ Below w.heap.size w w'
theorem lrun_any (l : List S0) (LA : Option Addr) (ln lc : Nat) (ID : Int) (A : Option Addr) (n cap : Nat) (cs : List Cmp) (seed tick key : Int) (w : World) (a : RunArg w l LA ln A n cap cs seed key) :
    Calls Tryz.prog 11 #[.slice LA ln lc, .agg #[.int .i64 ID, .slice A n cap], .agg #[.int .u64 seed, .int .i64 tick, .int .u64 key]] w (LrunR w l ID seed tick key cs) := by
  by_cases hok : okP l = true
  · have K := okP_use hok
    obtain ⟨r, hr, -⟩ := runs_ok (cA := none) (cn := (codeP l).length) (cc := 0) (L := localsP l) (R := maskP 4 l) (Wr := maskP 5 l) (ID := ID) (code := codeP l) (cs := cs) (seed := seed) (tick := tick) (key := key) ⟨none, (codeP l).length, 0, (localsP l : Nat), maskP 4 l, maskP 5 l, ID, seed, tick, key, newI seed tick ID key⟩ rfl K.sound K.len rfl K.op a.xl a.x.kind a.s0 a.s1 a.k0 a.k1 10000 (Nat.le_refl _)
    have hr : runF (fixP l ID seed tick key) (codeP l) 10000 (start (localsP l) cs) = some r := by
      rw [← runF_congr (S := ⟨none, (codeP l).length, 0, (localsP l : Nat), maskP 4 l, maskP 5 l, ID, seed, tick, key, newI seed tick ID key⟩) (S' := fixP l ID seed tick key) rfl rfl rfl rfl]
      exact hr
    refine (lrun_ok l LA ln lc ID A n cap cs seed tick key w a hok r hr).mono ?_
    rintro e w' ⟨A', cap', rfl, ho, hb⟩
    obtain ⟨A2, c2, e2, hat, hnil⟩ := compsAt_own ho
    rw [Value.slice.injEq] at e2
    obtain ⟨rfl, -, rfl⟩ := e2
    refine ⟨ID, _, _, _, _, _, endC cs r, rfl, fun h => ⟨rfl, rfl, ⟨endN r, rfl, of_decide_eq_true h, r, hok, hr, rfl, rfl⟩, hat, hnil⟩, hb⟩
  · refine (lrun_no l LA ln lc ID A n cap cs seed tick key w a (by simpa using hok)).mono ?_
    rintro e w' ⟨er, rfl, hb⟩
    exact ⟨0, none, 0, 0, er, false, [], rfl, (fun h => by cases h), hb⟩
theorem RunY.length {l : List S0} {ID seed tick key er : Int} {cs c : List Cmp} (h : RunY l ID seed tick key cs er c) : c.length = cs.length := by
  obtain ⟨N, -, -, h⟩ := h
  exact h.length
theorem RunY.kind {l : List S0} {ID seed tick key er : Int} {cs c : List Cmp} (h : RunY l ID seed tick key cs er c) (hk : ∀ x, x ∈ cs → x.kind < 256) : ∀ x, x ∈ c → x.kind < 256 := by
  obtain ⟨N, -, -, h⟩ := h
  exact h.kind hk
theorem RunY.loop {l : List S0} {ID seed tick key er er1 : Int} {cs c c1 : List Cmp} (h : RunY l ID seed tick key cs er c) (h1 : RunY (unrollF l) ID seed tick key cs er1 c1) : er = er1 ∧ c = c1 := by
  obtain ⟨N, rfl, z, h⟩ := h
  obtain ⟨N1, rfl, z1, h1⟩ := h1
  obtain ⟨rfl, rfl⟩ := loop_same h h1 z z1
  exact ⟨rfl, rfl⟩
theorem RunY.swap {l : List S0} {ID seed tick key er er1 : Int} {cs c c1 : List Cmp} (h : RunY l ID seed tick key cs er c) (h1 : RunY (l.map flipS) ID seed tick key cs er1 c1) : er = er1 ∧ c = c1 := by
  obtain ⟨N, rfl, z, h⟩ := h
  obtain ⟨N1, rfl, z1, h1⟩ := h1
  obtain ⟨rfl, rfl⟩ := swap_same h h1 z z1
  exact ⟨rfl, rfl⟩
structure BoIn (w W : World) (g : Nat) (ID : Int) (A : Option Addr) (n cap : Nat) (seed tick key : Int) : Prop where
  x : W.heap[g]? = some (.cells #[.int .i64 ID, .slice A n cap] 25 (0, 0))
  v : W.heap[g + 1]? = some (.cells #[.int .u64 seed, .int .i64 tick, .int .u64 key] 28 (0, 0))
  b : Below g w W
theorem boIn_new (w : World) (ID : Int) (A : Option Addr) (n cap : Nat) (seed tick key : Int) : ∃ W g, W = (w.alloc (.cells #[.int .i64 ID, .slice A n cap] 25 (0, 0))).alloc (.cells #[.int .u64 seed, .int .i64 tick, .int .u64 key] 28 (0, 0)) ∧ g = w.heap.size ∧ BoIn w W g ID A n cap seed tick key := by
  refine ⟨_, _, rfl, rfl, heap_alloc_fst w _ _, heap_alloc_snd w _ _, ((Below.refl _ _).alloc (Nat.le_refl _) _).alloc (by simp) _⟩
theorem BoIn.below {w W W' : World} {g : Nat} {ID : Int} {A : Option Addr} {n cap : Nat} {seed tick key : Int} (h : BoIn w W g ID A n cap seed tick key) (hb : Below W.heap.size W W') : BoIn w W' g ID A n cap seed tick key :=
  ⟨(hb.block _ (lt_of_block h.x)).trans h.x, (hb.block _ (lt_of_block h.v)).trans h.v, h.b.trans (hb.mono (Nat.le_of_lt (lt_of_block h.x)))⟩
theorem BoIn.facts {w W : World} {g : Nat} {ID : Int} {A : Option Addr} {n cap : Nat} {seed tick key : Int} (h : BoIn w W g ID A n cap seed tick key) :
    (W.cell? ⟨g, 0, none⟩ = some (.int .i64 ID) ∧ W.cell? ⟨g, 1, none⟩ = some (.slice A n cap)) ∧ (W.cell? ⟨g + 1, 0, none⟩ = some (.int .u64 seed) ∧ W.cell? ⟨g + 1, 1, none⟩ = some (.int .i64 tick) ∧ W.cell? ⟨g + 1, 2, none⟩ = some (.int .u64 key)) :=
  ⟨⟨(cell_of_block h.x 0).trans rfl, (cell_of_block h.x 1).trans rfl⟩, (cell_of_block h.v 0).trans rfl, (cell_of_block h.v 1).trans rfl, (cell_of_block h.v 2).trans rfl⟩
theorem ent_facts {W : World} {q : Nat} {ID : Int} {A : Option Addr} {n cap : Nat} (h : W.heap[q]? = some (.cells #[.int .i64 ID, .slice A n cap] 25 (0, 0))) : W.cell? ⟨q, 0, none⟩ = some (.int .i64 ID) ∧ W.cell? ⟨q, 1, none⟩ = some (.slice A n cap) :=
  ⟨(cell_of_block h 0).trans rfl, (cell_of_block h 1).trans rfl⟩
theorem same_true {ID : Int} {A B : Option Addr} {n m ca cb : Nat} {cs ds : List Cmp} (w : World) (hn : n = cs.length) (hm : m = ds.length) (e : cs = ds) (hl : cs.length ≤ 1000000) (ha : CompsAt w A cs) (hb : CompsAt w B ds) :
    Calls Tryz.prog 12 #[.agg #[.int .i64 ID, .slice A n ca], .agg #[.int .i64 ID, .slice B m cb]] w fun e w' => e = .returned (.bool true) ∧ Below w.heap.size w w' := by
  subst e
  rw [hn, hm]
  exact sameEntity_ok ID ID A B ca cb cs cs true (by simp) w ha hb hl hl
theorem szOne : szE oneE = 1 := by decide +kernel
theorem szBlock (l : List S0) : szS (blockS l) = 2 + szSs l := by
  unfold blockS
  simp only [szS, szEs, szSs, szOne]
  have : (⟨#[]⟩ : ByteArray).size / 30 = 0 := by decide
  omega
theorem runArg_of {w : World} {l : List S0} {LA : Option Addr} {ln : Nat} {A : Option Addr} {n cap : Nat} {cs : List Cmp} {seed key : Int} (hl : ln = l.length) (hs : szSs l ≤ 10000) (hp : ∀ d, SsAt w d LA l) (hx : XArg w A n cap cs) (hc : cs.length ≤ 1000) (s0 : 0 ≤ seed) (s1 : seed ≤ 18446744073709551615) (k0 : 0 ≤ key) (k1 : key ≤ 18446744073709551615) : RunArg w l LA ln A n cap cs seed key :=
  ⟨hl, by have := szSs_len l; omega, hp 41, fun _ => by have := codeP_len l; omega, hx, hc, s0, s1, k0, k1⟩
end
end Go.Proofs.YtocbddajakbemaaGreat
