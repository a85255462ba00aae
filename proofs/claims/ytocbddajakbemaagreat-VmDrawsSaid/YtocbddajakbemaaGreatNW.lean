/- vm: VmDraws' walk. -/
import Derived.Test.YtocbddajakbemaaGreatNV
set_option linter.unusedVariables false
set_option linter.unusedSimpArgs false
set_option linter.unusedSimpArgs false
namespace Go.Proofs.YtocbddajakbemaaGreat
section
open Go.RowKit

set_option maxRecDepth 100000 in
set_option maxHeartbeats 8000000 in
theorem vmDraws_walk (seed tick key ID u0 u1 u2 : Int) (w : World) (s0 : 0 ≤ seed) (s1 : seed ≤ 18446744073709551615) (k0 : 0 ≤ key) (k1 : key ≤ 18446744073709551615)
    (hu : 0 ≤ u0 ∧ u0 ≤ 4294967295 ∧ 0 ≤ u1 ∧ u1 ≤ 4294967295 ∧ 0 ≤ u2 ∧ u2 ≤ 4294967295) :
    Calls Tryz.prog 6 #[.agg #[.int .u64 seed, .int .i64 tick, .int .u64 key], .int .i64 ID, .agg #[.int .u32 u0, .int .u32 u1, .int .u32 u2]] w fun e w' => e = .returned (.bool true) ∧ Below w.heap.size w w' := by
  obtain ⟨g, eg⟩ : ∃ g, g = w.heap.size := ⟨_, rfl⟩
  have AW := fun W => awake_ok W
  obtain ⟨w1, e1⟩ : ∃ w1, w1 = (w.alloc (.cells #[.int .u64 seed, .int .i64 tick, .int .u64 key] 28 (0, 0))).alloc (.cells #[.int .u32 u0, .int .u32 u1, .int .u32 u2] 45 (0, 0)) := ⟨_, rfl⟩
  have b1 : Below g w w1 := by rw [e1, eg]; exact ((Below.refl _ _).alloc (Nat.le_refl _) _).alloc (by simp) _
  have h1 : w1.heap.size = g + 2 := by rw [e1, eg]; simp
  have kv : w1.heap[g]? = some (.cells #[.int .u64 seed, .int .i64 tick, .int .u64 key] 28 (0, 0)) := by rw [e1, eg]; exact heap_alloc_fst w _ _
  have kd : w1.heap[g + 1]? = some (.cells #[.int .u32 u0, .int .u32 u1, .int .u32 u2] 45 (0, 0)) := by rw [e1, eg]; exact heap_alloc_snd w _ _
  have H := Lib.hid (And.intro b1 (And.intro h1 (And.intro kv (And.intro kd (And.intro eg (And.intro s0 (And.intro s1 (And.intro k0 (And.intro k1 hu)))))))))
  clear b1 h1 kv kd s0 s1 k0 k1 hu
  go_enter Tryz.func6, Tryz.ntmps6
  go_upto_region 1 with fail
  rw [← e1, ← eg]
  clear e1 eg
  go_upto_region 3 with (go_at_call 7; refine (AW _).mono ?_; rintro e w2 ⟨rfl, hb2⟩; have H2 := Lib.hid hb2; clear hb2)
  clear AW
  obtain ⟨cb, ecb⟩ : ∃ cb, cb = w2.heap.size := ⟨_, rfl⟩
  obtain ⟨w3, e3⟩ : ∃ w3, w3 = (w2.alloc (.cells #[.int .u8 7, .int .i64 0, .int .i64 0, .int .i64 0, .int .i64 0] 48 (0, 0))).alloc (.cells #[.int .i64 ID, .slice (some ⟨cb, 0, none⟩) 1 1] 25 (0, 0)) := ⟨_, rfl⟩
  have D3 : DrIn w w3 g cb seed tick key ID u0 u1 u2 := by
    have hs2 := H2.out.size
    have hsz := H.out.2.1
    have b3 : Below w2.heap.size w2 w3 := by rw [e3]; exact ((Below.refl _ _).alloc (Nat.le_refl _) _).alloc (by simp) _
    have b13 := H2.out.trans (b3.mono hs2)
    refine ⟨(b13.block _ (by omega)).trans H.out.2.2.1, (b13.block _ (by omega)).trans H.out.2.2.2.1, ?_, ?_, H.out.1.trans (b13.mono (by omega)), by omega⟩
    · rw [e3, ecb]; exact heap_alloc_fst w2 _ _
    · rw [e3, ecb]; exact heap_alloc_snd w2 _ _
  have z3 : w3.heap.size = cb + 2 := by rw [e3, ecb]; simp
  obtain ⟨w4, e4⟩ : ∃ w4, w4 = w3.alloc (.cells #[.int .i64 0, .slice none 0 0, .int .i64 0, .slice none 0 0, .int .i64 0, .slice none 0 0] 49 (0, 0)) := ⟨_, rfl⟩
  have b4 : Below w3.heap.size w3 w4 := by rw [e4]; exact (Below.refl _ _).alloc (Nat.le_refl _) _
  have D4 := D3.keep (b4.mono (by omega))
  obtain ⟨q, eq⟩ : ∃ q, q = w3.heap.size := ⟨_, rfl⟩
  have G4 : DrGot w4 q 0 ID (newI seed tick ID key) (bF u0 u1 u2) #[.int .i64 0, .slice none 0 0, .int .i64 0, .slice none 0 0, .int .i64 0, .slice none 0 0] := ⟨by rw [e4, eq]; exact heap_alloc_new w3 _, rfl, fun j hj => by omega⟩
  have L4 : DrRow w4 (q + 1) 0 (bF u0 u1 u2) (.slice none 0 0) [] := ⟨⟨rfl, Or.inl ⟨rfl, rfl⟩⟩, fun j hj => by omega⟩
  have H4 := Lib.hid (And.intro D4 (And.intro G4 (And.intro L4 (show q = cb + 2 by omega))))
  have E3 := Lib.hid (And.intro e4 eq)
  clear D3 z3 b4 D4 G4 L4 e4 eq
  go_upto_region 5 with fail
  rw [← ecb, ← e3]
  clear e3 ecb
  go_upto_region 6 with fail
  rw [← E3.out.1, ← E3.out.2]
  go_wp2_with fail
  go_loopg [8, 10] 3 (fun gh lv iv wr => ∃ (i : Nat) (xs : List Value) (cs : Array Value), gh + i = 3 ∧ iv = .int .i64 (i : Nat) ∧ DrIn w wr g cb seed tick key ID u0 u1 u2 ∧ DrGot wr q i ID (newI seed tick ID key) (bF u0 u1 u2) cs ∧ DrRow wr (q + 1) i (bF u0 u1 u2) lv xs)
  case atStart => exact ⟨0, _, _, rfl, rfl, H4.out.1, H4.out.2.1, H4.out.2.2.1⟩
  case round =>
  obtain ⟨i, xs, cs, hg, rfl, hD, hG, hR⟩ := hrel
  obtain ⟨W, eW⟩ : ∃ W, W = wr := ⟨_, rfl⟩
  rw [← eW] at hD hG hR ⊢
  clear eW
  by_cases hlt : i < 3
  · have hu := H.out.2.2.2.2.2.2.2.2.2
    have hd := hD.bound i (by omega)
    obtain ⟨u, eu⟩ : ∃ u, u = bdF u0 u1 u2 i := ⟨_, rfl⟩
    rw [← eu] at hd
    have hub : 0 ≤ u ∧ u ≤ 4294967295 := by
      rw [eu]; unfold bdF
      split
      · omega
      · split <;> omega
    have i0 : (0 : Int) ≤ (i : Int) := by omega
    have i1 : (i : Int) < 3 := by omega
    have i2 : decide ((i : Int) < 3) = true := decide_eq_true i1
    have m1 : u.tmod 2147483648 = u % 2147483648 := Int.tmod_eq_emod_of_nonneg hub.1
    obtain ⟨n, en⟩ : ∃ n, n = 1 + u % 2147483648 := ⟨_, rfl⟩
    have nb : 1 ≤ n ∧ n ≤ 2147483648 := by omega
    have HU := Lib.hid (And.intro eu (And.intro hub (And.intro en nb)))
    have HJ := Lib.hid (And.intro hD (And.intro hG (And.intro hR (And.intro hg hlt))))
    clear hu hub eu nb hD hG hR hg hlt en
    go_upto_region 10 with fail
    rw [← HU.out.2.2.1]
    go_upto_region 11 with fail
    obtain ⟨w5, e5⟩ : ∃ w5, w5 = (W.alloc (.cells #[.int .u8 1, .int .i64 (i : Nat), .string ⟨#[]⟩, .slice none 0 0] 34 (0, 0))).alloc (.cells #[.int .u8 1, .int .i64 n, .string ⟨#[]⟩, .slice none 0 0] 34 (0, 0)) := ⟨_, rfl⟩
    obtain ⟨xi, exi⟩ : ∃ xi, xi = W.heap.size := ⟨_, rfl⟩
    rw [← e5, ← exi]
    have b5 : Below W.heap.size W w5 := by rw [e5]; exact ((Below.refl _ W).alloc (Nat.le_refl _) _).alloc (by simp) _
    have ki : w5.heap[xi]? = some (.cells #[.int .u8 1, .int .i64 (i : Nat), .string ⟨#[]⟩, .slice none 0 0] 34 (0, 0)) := by rw [e5, exi]; exact heap_alloc_fst W _ _
    have kn : w5.heap[xi + 1]? = some (.cells #[.int .u8 1, .int .i64 n, .string ⟨#[]⟩, .slice none 0 0] 34 (0, 0)) := by rw [e5, exi]; exact heap_alloc_snd W _ _
    obtain ⟨a0, a1, a2, a3⟩ := ebox ki
    obtain ⟨n0, n1, n2, n3⟩ := ebox kn
    have R5 := HJ.out.2.2.1.keep b5
    have hO8 : (((w5.alloc (.cells #[.int .u8 1, .int .i64 n, .string ⟨#[]⟩, .slice none 0 0] 34 (0, 0))).alloc (.cells #[.int .u8 1, .int .i64 (i : Nat), .string ⟨#[]⟩, .slice none 0 0, .int .u8 6, .int .i64 0, .string ⟨#[]⟩, .slice (some ⟨w5.heap.size, 0, none⟩) 1 1] 34 (0, 0))).alloc (.cells #[.int .u8 3, .int .i64 7, .string ⟨#[]⟩, .slice (some ⟨w5.heap.size + 1, 0, none⟩) 2 2, .slice none 0 0, .slice none 0 0] 39 (0, 0))).ownsRow (q + 1) 39 6 u8 i xs := ((R5.row.alloc _).alloc _).alloc _
    obtain ⟨i9, hi9, hz0, hz1, hz2⟩ := info_parts infoStmt
    have HI := Lib.hid (And.intro hi9 (And.intro hz0 (And.intro hz1 hz2)))
    have HO := Lib.hid hO8
    obtain ⟨nw, enw⟩ : ∃ nw : List Value, nw = [.int .u8 3, .int .i64 7, .string ⟨#[]⟩, .slice (some ⟨w5.heap.size + 1, 0, none⟩) 2 2, .slice none 0 0, .slice none 0 0] := ⟨_, rfl⟩
    have HN1 := Lib.hid (show nw.length = 1 * 6 from by rw [enw]; rfl)
    have HN3 := Lib.hid (show ∀ u ∈ nw, u.oneCell' = true from by rw [enw]; intro u hu; simp at hu; rcases hu with rfl | rfl | rfl | rfl | rfl <;> rfl)
    have HN2 := Lib.hid (show ∀ j u, nw[j]? = some u → (((w5.alloc (.cells #[.int .u8 1, .int .i64 n, .string ⟨#[]⟩, .slice none 0 0] 34 (0, 0))).alloc (.cells #[.int .u8 1, .int .i64 (i : Nat), .string ⟨#[]⟩, .slice none 0 0, .int .u8 6, .int .i64 0, .string ⟨#[]⟩, .slice (some ⟨w5.heap.size, 0, none⟩) 1 1] 34 (0, 0))).alloc (.cells #[.int .u8 3, .int .i64 7, .string ⟨#[]⟩, .slice (some ⟨w5.heap.size + 1, 0, none⟩) 2 2, .slice none 0 0, .slice none 0 0] 39 (0, 0))).cell? ((⟨w5.heap.size + 1 + 1, 0, none⟩ : Addr).add j) = some u from by rw [enw]; exact news_new _ #[.int .u8 3, .int .i64 7, .string ⟨#[]⟩, .slice (some ⟨w5.heap.size + 1, 0, none⟩) 2 2, .slice none 0 0, .slice none 0 0] _ _ (by simp))
    have HE := Lib.hid (And.intro e5 (And.intro exi (And.intro b5 (And.intro R5 enw))))
    clear e5 exi b5 ki kn R5 hO8 hi9 hz0 hz1 hz2 enw
    go_wp2_with (at_builtin; refine wpList_append_own_at _ rfl (.tmp 42) (.tmp 49) 22 rfl (q + 1) 39 i9 _ 6 104 Tryz.underlying22 HI.out.1 HI.out.2.1 HI.out.2.2.1 HI.out.2.2.2 rfl (by decide) u8 i xs rfl HO.out ⟨w5.heap.size + 1 + 1, 0, none⟩ 1 1 nw rfl HN1.out HN2.out HN3.out ?c3 ?c4 ?c5 ?_)
    case c3 => have := HJ.out.2.2.2.2; unfold maxLen; omega
    case c4 => have := HJ.out.2.2.2.2; omega
    case c5 =>
      have h1 := lt_of_block HJ.out.2.1.blk
      have h2 := HE.out.2.2.1.size
      simp
      omega
    intro v6 w6 hown6 hg6 _ hat6
    have hw8 : Below W.heap.size W (((w5.alloc (.cells #[.int .u8 1, .int .i64 n, .string ⟨#[]⟩, .slice none 0 0] 34 (0, 0))).alloc (.cells #[.int .u8 1, .int .i64 (i : Nat), .string ⟨#[]⟩, .slice none 0 0, .int .u8 6, .int .i64 0, .string ⟨#[]⟩, .slice (some ⟨w5.heap.size, 0, none⟩) 1 1] 34 (0, 0))).alloc (.cells #[.int .u8 3, .int .i64 7, .string ⟨#[]⟩, .slice (some ⟨w5.heap.size + 1, 0, none⟩) 2 2, .slice none 0 0, .slice none 0 0] 39 (0, 0))) := by
      have hs := HE.out.2.2.1.size
      exact ((HE.out.2.2.1.alloc hs _).alloc (by simp; omega) _).alloc (by simp; omega) _
    have hfb : (((w5.alloc (.cells #[.int .u8 1, .int .i64 n, .string ⟨#[]⟩, .slice none 0 0] 34 (0, 0))).alloc (.cells #[.int .u8 1, .int .i64 (i : Nat), .string ⟨#[]⟩, .slice none 0 0, .int .u8 6, .int .i64 0, .string ⟨#[]⟩, .slice (some ⟨w5.heap.size, 0, none⟩) 1 1] 34 (0, 0))).alloc (.cells #[.int .u8 3, .int .i64 7, .string ⟨#[]⟩, .slice (some ⟨w5.heap.size + 1, 0, none⟩) 2 2, .slice none 0 0, .slice none 0 0] 39 (0, 0))).heap[w5.heap.size]? = some (.cells #[.int .u8 1, .int .i64 n, .string ⟨#[]⟩, .slice none 0 0] 34 (0, 0)) :=
      (Below.heap_alloc _ _ _ (by simp only [World.size_alloc]; omega)).trans (heap_alloc_fst w5 _ _)
    have heb : (((w5.alloc (.cells #[.int .u8 1, .int .i64 n, .string ⟨#[]⟩, .slice none 0 0] 34 (0, 0))).alloc (.cells #[.int .u8 1, .int .i64 (i : Nat), .string ⟨#[]⟩, .slice none 0 0, .int .u8 6, .int .i64 0, .string ⟨#[]⟩, .slice (some ⟨w5.heap.size, 0, none⟩) 1 1] 34 (0, 0))).alloc (.cells #[.int .u8 3, .int .i64 7, .string ⟨#[]⟩, .slice (some ⟨w5.heap.size + 1, 0, none⟩) 2 2, .slice none 0 0, .slice none 0 0] 39 (0, 0))).heap[w5.heap.size + 1]? = some (.cells #[.int .u8 1, .int .i64 (i : Nat), .string ⟨#[]⟩, .slice none 0 0, .int .u8 6, .int .i64 0, .string ⟨#[]⟩, .slice (some ⟨w5.heap.size, 0, none⟩) 1 1] 34 (0, 0)) :=
      (Below.heap_alloc _ _ _ (by simp only [World.size_alloc]; omega)).trans (heap_alloc_snd w5 _ _)
    have hnb : n = bF u0 u1 u2 i := by rw [HU.out.2.2.1, HU.out.1]; rfl
    rw [HE.out.2.2.2.2] at hown6
    have D6 := HJ.out.1.grown hw8 H4.out.2.2.2 HJ.out.2.2.1.row hg6
    have G6 := HJ.out.2.1.grown hw8 HJ.out.2.2.1.row hg6
    have R6 := HJ.out.2.2.1.grown hw8 hg6 heb (by rw [← hnb]; exact hfb) hown6
    obtain ⟨rb, capr, curr, rfl, -⟩ := own_shape hown6 (by omega)
    have hi3 : i + 1 ≤ 3 := by have := HJ.out.2.2.2.2; omega
    have hu := H.out.2.2.2.2.2
    have F := draws_run D6 R6 hi3 hu.1 hu.2.1 hu.2.2.1 hu.2.2.2.1
    obtain ⟨⟨v0, v1, v2⟩, x0, x1⟩ := D6.facts
    have H6 := Lib.hid (And.intro D6 (And.intro G6 R6))
    clear hw8 hfb heb hnb hown6 hg6 hat6 D6 G6 R6 hi3 hu a0 a1 a2 a3 n0 n1 n2 n3 hd
    go_upto_region 13 with (go_at_call 11; refine F.mono ?_; rintro e w7 ⟨ab, capa, rfl, hab, ho7, hb7⟩; have H7 := Lib.hid (And.intro hab (And.intro ho7 hb7)); clear hab ho7 hb7)
    obtain ⟨w8, e8⟩ : ∃ w8, w8 = w7.alloc (.cells #[.int .i64 ID, .slice (some ⟨ab, 0, none⟩) 1 capa] 25 (0, 0)) := ⟨_, rfl⟩
    obtain ⟨yb, eyb⟩ : ∃ yb, yb = w7.heap.size := ⟨_, rfl⟩
    rw [← e8, ← eyb]
    have b8 : Below w7.heap.size w7 w8 := by rw [e8]; exact (Below.refl _ _).alloc (Nat.le_refl _) _
    have b68 : Below w6.heap.size w6 w8 := H7.out.2.2.trans (b8.mono H7.out.2.2.size)
    have ky : w8.heap[yb]? = some (.cells #[.int .i64 ID, .slice (some ⟨ab, 0, none⟩) 1 capa] 25 (0, 0)) := by rw [e8, eyb]; exact heap_alloc_new w7 _
    have D8 := H6.out.1.keep (b68.mono (lt_of_block H6.out.1.x))
    have G8 := H6.out.2.1.keep b68
    have R8 := H6.out.2.2.keep b68
    have O8 := own_blk (w' := w8) H7.out.2.1 (fun k hk => b8.block k (own_lt H7.out.2.1 hk).1)
    have hqa : q < ab := by have := lt_of_block H6.out.2.1.blk; have := H7.out.1; omega
    have hi3 := HJ.out.2.2.2.2
    have S9 := G8.stored hi3 hqa O8
    have hO9 : Only q w8 ((w8.setCell ⟨q, i * 2, none⟩ (.int .i64 ID)).setCell ⟨q, i * 2 + 1, none⟩ (.slice (some ⟨ab, 0, none⟩) 1 capa)) := ((Only.refl q w8).setCell (p := ⟨q, i * 2, none⟩) rfl _).setCell (p := ⟨q, i * 2 + 1, none⟩) rfl _
    have y0 : w8.cell? ⟨yb, 0, none⟩ = some (.int .i64 ID) := (cell_of_block ky 0).trans rfl
    have y1 : w8.cell? ⟨yb, 1, none⟩ = some (.slice (some ⟨ab, 0, none⟩) 1 capa) := (cell_of_block ky 1).trans rfl
    have hs6 := G8.size
    obtain ⟨g0, eg0⟩ : ∃ g0, g0 = cs[i * 2]'(by omega) := ⟨_, rfl⟩
    obtain ⟨g1, eg1⟩ : ∃ g1, g1 = cs[i * 2 + 1]'(by omega) := ⟨_, rfl⟩
    have c0 : w8.cell? ⟨q, i * 2, none⟩ = some g0 := by rw [cell_of_block G8.blk, eg0]; exact Array.getElem?_eq_getElem _
    have c1 : w8.cell? ⟨q, i * 2 + 1, none⟩ = some g1 := by rw [cell_of_block G8.blk, eg1]; exact Array.getElem?_eq_getElem _
    have z0 := free_of_block G8.blk (i * 2)
    have z1 := free_of_block G8.blk (i * 2 + 1)
    have D9 := D8.keep (hO9.below (B := cb + 2) (by have := H4.out.2.2.2; omega))
    have R9 := R8.only hO9 G8.blk
    have hyq : yb ≠ q := by
      intro e
      rw [e, G8.blk] at ky
      injection ky with ky
      injection ky with _ ky
      exact absurd ky (by decide)
    have ky9 := (hO9.block yb hyq).trans ky
    have H9 := Lib.hid (And.intro D9 (And.intro S9 (And.intro R9 (And.intro ky9 hi3))))
    clear b8 b68 ky D8 G8 R8 O8 hqa hi3 S9 hO9 hs6 eg0 eg1 D9 R9 hyq ky9 e8 eyb v0 v1 v2 x0 x1 F
    go_upto_region 16 with fail
    obtain ⟨w9, e9⟩ : ∃ w9, w9 = (w8.setCell ⟨q, i * 2, none⟩ (.int .i64 ID)).setCell ⟨q, i * 2 + 1, none⟩ (.slice (some ⟨ab, 0, none⟩) 1 capa) := ⟨_, rfl⟩
    have h9 := H9.out
    rw [← e9] at h9 ⊢
    have H9b := Lib.hid h9
    clear e9 h9 y0 y1 c0 c1 z0 z1 H9
    go_wp2_with fail
    go_loopg [17, 18] (i + 1) (fun gh kv wv wr => ∃ (k : Nat), gh + k = i + 1 ∧ kv = .int .i64 (k : Nat) ∧ w9 = wr)
    case atStart => exact ⟨0, rfl, rfl, rfl⟩
    case round =>
    obtain ⟨k, hk, rfl, rfl⟩ := hrel
    by_cases hki : k ≤ i
    · obtain ⟨D9, S9, R9, ky9, hi3⟩ := H9b.out
      obtain ⟨sj1, eb, c9, sj2, sj3, sj4⟩ := S9.got k (by omega)
      obtain ⟨-, eb', c9', sj2', sj3', sj4'⟩ := S9.got i (by omega)
      have e3 : eb' = ab ∧ c9' = capa := by
        rw [two_sets (by have := S9.size; simp at this; omega), if_pos rfl] at sj3'
        injection sj3' with sj3'
        rw [Value.slice.injEq, Option.some.injEq, Addr.mk.injEq] at sj3'
        exact ⟨sj3'.1.1.symm, sj3'.2.2.symm⟩
      obtain ⟨rfl, rfl⟩ := e3
      have p1 := drawn_cell sj4 (by omega) (show k < k + 1 by omega)
      have p2 := drawn_cell sj4' (by omega) (show k < i + 1 by omega)
      have y1 : w9.cell? ⟨yb, 1, none⟩ = some (.slice (some ⟨eb', 0, none⟩) 1 c9') := (cell_of_block ky9 1).trans rfl
      have t1 : w9.cell? ⟨q, k * 2 + 1, none⟩ = some (.slice (some ⟨eb, 0, none⟩) 1 c9) := (cell_of_block S9.blk _).trans sj3
      have hdk := D9.bound k (by omega)
      obtain ⟨uk, euk⟩ : ∃ uk, uk = bdF u0 u1 u2 k := ⟨_, rfl⟩
      have hvr := vD_range (newI seed tick ID key) u0 u1 u2 k
      have hbk : bF u0 u1 u2 k = 1 + uk % 2147483648 := by rw [euk]; rfl
      rw [hbk] at hvr
      rw [← euk] at hdk
      have huk : 0 ≤ uk ∧ uk ≤ 4294967295 := by
        have hu := H.out.2.2.2.2.2.2.2.2.2
        rw [euk]; unfold bdF
        split
        · omega
        · split <;> omega
      obtain ⟨v, ev⟩ : ∃ v, v = vD (newI seed tick ID key) (bF u0 u1 u2) k := ⟨_, rfl⟩
      rw [← ev] at p1 p2 hvr
      have j0 : (0 : Int) ≤ (k : Int) := by omega
      have j1 : (k : Int) < 4 := by omega
      have j2 : (k : Int) < 3 := by omega
      have j3 : decide ((k : Int) ≤ (i : Int)) = true := decide_eq_true (by omega)
      have j4 : decide (k ≤ i) = true := decide_eq_true hki
      have m2 : uk.tmod 2147483648 = uk % 2147483648 := Int.tmod_eq_emod_of_nonneg huk.1
      have q1 : decide (v < 0) = false := decide_eq_false (by omega)
      have q2 : decide (1 + uk % 2147483648 ≤ v) = false := decide_eq_false (by omega)
      have q3 : (v != v) = false := by simp
      have u1' : wrap64 ((k : Int) + 1) = (k : Int) + 1 := by unfold wrap64; omega
      have HK := Lib.hid (And.intro hk hki)
      clear D9 S9 R9 ky9 hi3 sj1 sj2 sj3 sj4 sj2' sj3' sj4' euk hvr hbk huk ev hk hki
      go_wp2_with fail
      go_roundg (i - k)
      case measure => have := HK.out.1; have := HK.out.2; omega
      case rel => exact ⟨k + 1, by have := HK.out.2; omega, by go_num, rfl⟩
    · have j3 : decide ((k : Int) ≤ (i : Int)) = false := decide_eq_false (by omega)
      have j4 : decide (k ≤ i) = false := decide_eq_false hki
      have u1' : wrap64 ((i : Int) + 1) = (i : Int) + 1 := by have := H9b.out.2.2.2.2; unfold wrap64; omega
      clear hk hki
      go_wp2_with fail
      go_roundg (2 - i)
      case measure => have := HJ.out.2.2.2.1; have := HJ.out.2.2.2.2; omega
      case rel => exact ⟨i + 1, _, _, by have := HJ.out.2.2.2.2; omega, by go_num, H9b.out.1, H9b.out.2.1, H9b.out.2.2.1⟩
  · have hi3 : i = 3 := by omega
    obtain ⟨rb, capr, curr, rfl, -⟩ := own_shape hR.row (by omega)
    have i2 : decide ((i : Int) < 3) = false := decide_eq_false (by omega)
    have hu := H.out.2.2.2.2.2
    have F := draws_run hD hR (by omega) hu.1 hu.2.1 hu.2.2.1 hu.2.2.2.1
    obtain ⟨⟨v0, v1, v2⟩, x0, x1⟩ := hD.facts
    have HJ := Lib.hid (And.intro hD (And.intro hG hi3))
    clear hD hG hR hg hlt hi3 hu
    go_upto_region 23 with (go_at_call 11; refine F.mono ?_; rintro e w7 ⟨ab, capa, rfl, hab, ho7, hb7⟩; have H7 := Lib.hid (And.intro hab (And.intro ho7 hb7)); clear hab ho7 hb7)
    obtain ⟨w8, e8⟩ : ∃ w8, w8 = w7.alloc (.cells #[.int .i64 ID, .slice (some ⟨ab, 0, none⟩) 1 capa] 25 (0, 0)) := ⟨_, rfl⟩
    obtain ⟨yb, eyb⟩ : ∃ yb, yb = w7.heap.size := ⟨_, rfl⟩
    rw [← e8, ← eyb]
    have b8 : Below w7.heap.size w7 w8 := by rw [e8]; exact (Below.refl _ _).alloc (Nat.le_refl _) _
    have b68 : Below W.heap.size W w8 := H7.out.2.2.trans (b8.mono H7.out.2.2.size)
    have ky : w8.heap[yb]? = some (.cells #[.int .i64 ID, .slice (some ⟨ab, 0, none⟩) 1 capa] 25 (0, 0)) := by rw [e8, eyb]; exact heap_alloc_new w7 _
    have D8 := HJ.out.1.keep (b68.mono (lt_of_block HJ.out.1.x))
    have G8 := HJ.out.2.1.keep b68
    have O8 := own_blk (w' := w8) H7.out.2.1 (fun k hk => b8.block k (own_lt H7.out.2.1 hk).1)
    have hi3 := HJ.out.2.2
    obtain ⟨s1, eb, c9, s2, s3, s4⟩ := G8.got 2 (by omega)
    have y0 : w8.cell? ⟨yb, 0, none⟩ = some (.int .i64 ID) := (cell_of_block ky 0).trans rfl
    have y1 : w8.cell? ⟨yb, 1, none⟩ = some (.slice (some ⟨ab, 0, none⟩) 1 capa) := (cell_of_block ky 1).trans rfl
    have t0 : w8.cell? ⟨q, 4, none⟩ = some (.int .i64 ID) := (cell_of_block G8.blk _).trans s1
    have t1 : w8.cell? ⟨q, 5, none⟩ = some (.slice (some ⟨eb, 0, none⟩) 1 c9) := (cell_of_block G8.blk _).trans s3
    have SE : Calls Tryz.prog 12 #[.agg #[.int .i64 ID, .slice (some ⟨ab, 0, none⟩) 1 capa], .agg #[.int .i64 ID, .slice (some ⟨eb, 0, none⟩) 1 c9]] w8 fun e w' => e = .returned (.bool true) ∧ Below w8.heap.size w8 w' := by
      obtain ⟨A1, d1, q1, h1, -⟩ := compsAt_own (cs := [cD (newI seed tick ID key) (bF u0 u1 u2) i]) O8
      obtain ⟨A2, d2, q2, h2, -⟩ := compsAt_own (cs := [cD (newI seed tick ID key) (bF u0 u1 u2) (2 + 1)]) s4
      simp only [Value.slice.injEq, true_and] at q1 q2
      obtain ⟨rfl, -, rfl⟩ := q1
      obtain ⟨rfl, -, rfl⟩ := q2
      exact sameEntity_ok ID ID _ _ _ _ [cD (newI seed tick ID key) (bF u0 u1 u2) i] [cD (newI seed tick ID key) (bF u0 u1 u2) (2 + 1)] true (by rw [hi3]; simp) w8 h1 h2 (by show 1 ≤ 1000000; omega) (by show 1 ≤ 1000000; omega)
    have H8 := Lib.hid D8
    clear b8 b68 ky D8 G8 O8 hi3 s1 s2 s3 s4 e8 eyb v0 v1 v2 x0 x1 F
    go_wp2_with (go_at_call 12; refine SE.mono ?_; rintro e w10 ⟨rfl, hb10⟩; have H10 := Lib.hid hb10; clear hb10)
    go_ret
    refine ⟨rfl, ?_⟩
    rw [← H.out.2.2.2.2.1]
    exact H8.out.b.trans (H10.out.mono (Nat.le_of_lt (lt_of_block H8.out.v)))
end
end Go.Proofs.YtocbddajakbemaaGreat
