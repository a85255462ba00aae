/- math/big: nat.mul by one word, up to 2^64. -/
import Derived.Test.YtabgeonlodmpiaaGreatDoorDNat2
set_option linter.unusedVariables false
namespace Go.Proofs.YtabgeonlodmpiaaGreatDoor
open Go.RowKit

theorem mulAddVWW_enters (args : Array Value) (w : World) : (callFunc 86 args).run Tryz.prog w = .ok (.enter 34 args) w :=
  run_callFunc_twin (twin := "math/big.mulAddVWW_g") Tryz.func86 (by kernel_rfl) (by kernel_rfl) (by kernel_rfl) (by kernel_rfl) Tryz.func34 (by kernel_rfl) (by kernel_rfl) (by kernel_rfl) args w
theorem www_ok (x y hi lo : Nat) (hx : x < 18446744073709551616) (hy : y < 18446744073709551616) (e1 : x * y / 18446744073709551616 = hi) (e2 : x * y % 18446744073709551616 = lo) (w : World) :
    Calls Tryz.prog 82 #[.int .u64 (x : Nat), .int .u64 (y : Nat), .int .u64 0] w fun e w' => e = .returned (.tuple #[.int .u64 (hi : Nat), .int .u64 (lo : Nat)]) ∧ w' = w := by
  have M := Mul_ok x y hi lo hx hy e1 e2 w
  have A1 := Add_ok lo 0 0 lo 0 (by decide) (by omega) (by omega) w
  have hh : IntKind.u64.wrap (hi : Int) = (hi : Nat) := by
    refine Mu.wrapN _ ?_
    rw [← e1]
    apply (Nat.div_lt_iff_lt_mul (by decide)).2
    exact Nat.lt_of_le_of_lt (Nat.mul_le_mul_right y (Nat.le_of_lt hx)) (Nat.mul_lt_mul_of_pos_left hy (by decide))
  clear hx hy e1 e2
  go_enter Tryz.func82, Tryz.ntmps82
  go_wp2_with fail
  refine M.mono ?_
  rintro e w1 ⟨rfl, rfl⟩
  go_wp2_with fail
  refine A1.mono ?_
  rintro e w1 ⟨rfl, rfl⟩
  go_wp2_with fail
  go_ret2
  exact ⟨rfl, rfl⟩
theorem vww1 (h cz cx x y hi lo : Nat) (Ax : Addr) (w : World) (hz : ∃ u, w.cell? ⟨h, 0, none⟩ = some u) (hf : w.frozen? ⟨h, 0, none⟩ = false) (hc : w.cell? Ax = some (.int .u64 (x : Nat))) (hcz : 1 ≤ cz) (hcx : 1 ≤ cx)
    (hx : x < 18446744073709551616) (hy : y < 18446744073709551616) (e1 : x * y / 18446744073709551616 = hi) (e2 : x * y % 18446744073709551616 = lo) :
    Calls Tryz.prog 34 #[.slice (some ⟨h, 0, none⟩) 1 cz, .slice (some Ax) 1 cx, .int .u64 (y : Nat), .int .u64 0] w fun e w' => e = .returned (.int .u64 (hi : Nat)) ∧ w' = w.setCell ⟨h, 0, none⟩ (.int .u64 (lo : Nat)) := by
  have M := fun W => www_ok x y hi lo hx hy e1 e2 W
  obtain ⟨u, hz⟩ := hz
  clear hx hy e1 e2
  go_enter Tryz.func34, Tryz.ntmps34
  go_wp2_with fail
  go_loopg [8, 19] 1 (fun gh c i wr => (gh = 1 ∧ c = .int .u64 0 ∧ i = .int .i64 0 ∧ w = wr) ∨ (gh = 0 ∧ c = .int .u64 (hi : Nat) ∧ i = .int .i64 1 ∧ wr = w.setCell ⟨h, 0, none⟩ (.int .u64 (lo : Nat))))
  case atStart => exact Or.inl ⟨rfl, rfl, rfl, rfl⟩
  case round =>
    rcases hrel with ⟨hgh, rfl, rfl, rfl⟩ | ⟨hgh, rfl, rfl, rfl⟩
    · have Hgh := Lib.hid hgh; clear hgh
      go_wp2_with fail
      refine (M _).mono ?_
      rintro e w1 ⟨rfl, rfl⟩
      go_wp2_with fail
      go_roundg 0
      case measure => have := Hgh.out; omega
      case rel => exact Or.inr ⟨rfl, rfl, rfl, rfl⟩
    · go_wp2_with fail
      go_ret
      exact ⟨rfl, rfl⟩
/-- 2^64 by 1. -/
theorem vww2 (h bx cz cx : Nat) (z cs : Array Value) (w : World) (hz : WB w h z) (hzs : z.size = 7) (hx : WB w bx cs) (hne : bx ≠ h) (hx0 : cs[0]? = some (.int .u64 0)) (hx1 : cs[1]? = some (.int .u64 1)) (hcz : 2 ≤ cz) (hcx : 2 ≤ cx) :
    Calls Tryz.prog 34 #[.slice (some ⟨h, 0, none⟩) 2 cz, .slice (some ⟨bx, 0, none⟩) 2 cx, .int .u64 1, .int .u64 0] w fun e w' => e = .returned (.int .u64 0) ∧ w' = (w.setCell ⟨h, 0, none⟩ (.int .u64 0)).setCell ⟨h, 1, none⟩ (.int .u64 1) := by
  have M0 := fun W => www_ok 0 1 0 0 (by decide) (by decide) (by decide) (by decide) W
  have M1 := fun W => www_ok 1 1 0 1 (by decide) (by decide) (by decide) (by decide) W
  obtain ⟨w2, e2⟩ : ∃ w2, w2 = w.setCell ⟨h, 0, none⟩ (.int .u64 0) := ⟨_, rfl⟩
  have hz2 : WB w2 h (z.setIfInBounds 0 (.int .u64 0)) := by rw [e2]; exact block_setCell hz 0 _
  have hx2 : WB w2 bx cs := by rw [e2]; exact (Below.heap_setCell _ _ _ _ hne).trans hx
  have a0 : w.cell? ⟨bx, 0, none⟩ = some (.int .u64 0) := (cell_of_block hx 0).trans hx0
  have a1 : w2.cell? ⟨bx, 1, none⟩ = some (.int .u64 1) := (cell_of_block hx2 1).trans hx1
  obtain ⟨u0, b0⟩ : ∃ u, w.cell? ⟨h, 0, none⟩ = some u := ⟨_, (cell_of_block hz 0).trans (Array.getElem?_eq_getElem (by omega))⟩
  obtain ⟨u1, b1⟩ : ∃ u, w2.cell? ⟨h, 1, none⟩ = some u := ⟨_, (cell_of_block hz2 1).trans (Array.getElem?_eq_getElem (by rw [Array.size_setIfInBounds]; omega))⟩
  have f0 := free_of_block hz 0
  have f1 := free_of_block hz2 1
  rw [← e2]
  have HE := Lib.hid e2
  clear hz hzs hx hne hx0 hx1 e2 hz2 hx2
  go_enter Tryz.func34, Tryz.ntmps34
  go_wp2_with fail
  go_loopg [8, 19] 2 (fun gh c i wr => (gh = 2 ∧ c = .int .u64 0 ∧ i = .int .i64 0 ∧ w = wr) ∨ (gh = 1 ∧ c = .int .u64 0 ∧ i = .int .i64 1 ∧ w2 = wr) ∨ (gh = 0 ∧ c = .int .u64 0 ∧ i = .int .i64 2 ∧ wr = w2.setCell ⟨h, 1, none⟩ (.int .u64 1)))
  case atStart => exact Or.inl ⟨rfl, rfl, rfl, rfl⟩
  case round =>
    rcases hrel with ⟨hgh, rfl, rfl, rfl⟩ | ⟨hgh, rfl, rfl, rfl⟩ | ⟨hgh, rfl, rfl, rfl⟩
    · have Hgh := Lib.hid hgh; clear hgh
      go_wp2_with fail
      refine (M0 _).mono ?_
      rintro e w1 ⟨rfl, rfl⟩
      go_wp2_with fail
      go_roundg 1
      case measure => have := Hgh.out; omega
      case rel => exact Or.inr (Or.inl ⟨rfl, rfl, rfl, HE.out⟩)
    · have Hgh := Lib.hid hgh; clear hgh
      go_wp2_with fail
      refine (M1 _).mono ?_
      rintro e w1 ⟨rfl, rfl⟩
      go_wp2_with fail
      go_roundg 0
      case measure => have := Hgh.out; omega
      case rel => exact Or.inr (Or.inr ⟨rfl, rfl, rfl, rfl⟩)
    · clear hgh
      go_wp2_with fail
      go_ret
      exact ⟨rfl, rfl⟩
set_option maxRecDepth 100000 in
/-- One word by one: at most 2^64. -/
theorem maww1 (w : World) (b cx x y p : Nat) (cs : Array Value) (hb : WB w b cs) (hc0 : cs[0]? = some (.int .u64 (x : Nat))) (hcx : 1 ≤ cx) (hx0 : 0 < x) (hx : x < 18446744073709551616) (hy0 : 0 < y) (hy : y < 18446744073709551616) (hp : x * y = p) (hp2 : p ≤ 18446744073709551616) :
    Calls Tryz.prog 66 #[.slice none 0 0, .slice (some ⟨b, 0, none⟩) 1 cx, .int .u64 (y : Nat), .int .u64 0] w fun e w' => ∃ A n c, e = .returned (.slice A n c) ∧ NumS w' w.heap.size A n c p ∧ Below w.heap.size w w' := by
  have hp0 : 0 < p := by rw [← hp]; exact Nat.mul_pos hx0 hy0
  have k0 : ((y : Int) == 0) = false := decide_eq_false (by omega)
  have M := make_new none 0 2 0 (by omega) (by omega) (by omega) w
  obtain ⟨h, eh⟩ : ∃ h, h = w.heap.size := ⟨_, rfl⟩
  obtain ⟨z, ez⟩ : ∃ z, z = zw 6 := ⟨_, rfl⟩
  obtain ⟨w0, ew0⟩ : ∃ w0, w0 = w.alloc (.cells z 62) := ⟨_, rfl⟩
  rw [show zw (2 + 4) = z from ez.symm, ← ew0, ← eh] at M
  have hz : WB w0 h z := by rw [ew0, eh]; exact heap_alloc_new w _
  have hzs : z.size = 6 := by rw [ez]; exact zw_size 6
  have hbl := hb.lt
  have hb0 : WB w0 b cs := by rw [ew0]; exact (Below.heap_alloc w _ b hbl).trans hb
  obtain ⟨hi, ehi⟩ : ∃ hi, hi = x * y / 18446744073709551616 := ⟨_, rfl⟩
  obtain ⟨lo, elo⟩ : ∃ lo, lo = x * y % 18446744073709551616 := ⟨_, rfl⟩
  have V := vww1 h 6 cx x y hi lo ⟨b, 0, none⟩ w0 ⟨_, (cell_of_block hz 0).trans (Array.getElem?_eq_getElem (by omega))⟩ (free_of_block hz 0) ((cell_of_block hb0 0).trans hc0) (by omega) hcx hx hy ehi.symm elo.symm
  rw [hp] at ehi elo
  obtain ⟨w1, ew1⟩ : ∃ w1, w1 = w0.setCell ⟨h, 0, none⟩ (.int .u64 (lo : Nat)) := ⟨_, rfl⟩
  have hz1 : WB w1 h (z.setIfInBounds 0 (.int .u64 (lo : Nat))) := by rw [ew1]; exact block_setCell hz 0 _
  obtain ⟨u1, b1⟩ : ∃ u, w1.cell? ⟨h, 1, none⟩ = some u := ⟨_, (cell_of_block hz1 1).trans (Array.getElem?_eq_getElem (by rw [Array.size_setIfInBounds]; omega))⟩
  have f1 := free_of_block hz1 1
  rw [← ew1] at V
  obtain ⟨w2, ew2⟩ : ∃ w2, w2 = w1.setCell ⟨h, 1, none⟩ (.int .u64 (hi : Nat)) := ⟨_, rfl⟩
  have hz2 : WB w2 h ((z.setIfInBounds 0 (.int .u64 (lo : Nat))).setIfInBounds 1 (.int .u64 (hi : Nat))) := by rw [ew2]; exact block_setCell hz1 1 _
  have hs := set01 z (.int .u64 (lo : Nat)) (.int .u64 (hi : Nat)) (by omega)
  have HB : Below w.heap.size w w2 := by
    rw [ew2, ew1, ew0, eh]; exact Below.setCell (Below.setCell ((Below.refl _ _).alloc (Nat.le_refl _) _) (Nat.le_refl _) _) (Nat.le_refl _) _
  have NN : Calls Tryz.prog 53 #[.slice (some ⟨h, 0, none⟩) 2 6] w2 fun e w' => ∃ n, e = .returned (.slice (some ⟨h, 0, none⟩) n 6) ∧ NumS w2 h (some ⟨h, 0, none⟩) n 6 p ∧ w' = w2 := by
    rcases Nat.lt_or_ge p 18446744073709551616 with hl | hl
    · have e1 : hi = 0 := by omega
      have e2 : lo = p := by omega
      rw [e1, e2] at hz2 hs
      refine (norm_ok (some ⟨h, 0, none⟩) 2 1 6 (by omega) (by omega) w2 (by omega) (fun i h1 h2 => ⟨h, rfl, by rw [show i = 1 from by omega]; exact (cell_of_block hz2 1).trans hs.2.1⟩) (Or.inr ⟨h, p, rfl, (cell_of_block hz2 0).trans hs.1, hp0⟩)).mono ?_
      rintro e w' ⟨rfl, rfl⟩
      exact ⟨1, rfl, NumS.mk1 hz2 (Nat.le_refl _) (hs.2.2.2.trans hzs) (by omega) hs.1 hp0 hl, rfl⟩
    · have e1 : hi = 1 := by omega
      have e2 : lo = p - 18446744073709551616 := by omega
      rw [e1, e2] at hz2 hs
      refine (norm_ok (some ⟨h, 0, none⟩) 2 2 6 (by omega) (by omega) w2 (by omega) (fun i h1 h2 => by omega) (Or.inr ⟨h, 1, rfl, (cell_of_block hz2 1).trans hs.2.1, by omega⟩)).mono ?_
      rintro e w' ⟨rfl, rfl⟩
      exact ⟨2, rfl, NumS.mk2 hz2 (Nat.le_refl _) (hs.2.2.2.trans hzs) (by omega) hs.1 hs.2.1 hl, rfl⟩
  have T := mulAddVWW_enters
  rw [← eh] at HB ⊢
  have HBB := Lib.hid HB
  have HE := Lib.hid (And.intro ew0 (And.intro eh (And.intro ew1 ew2)))
  clear hb hc0 hx0 hx hy0 hy hp hp2 hp0 hz hzs hbl hb0 ehi elo hz1 hz2 hs HB ew0 eh ew1 ez
  have HW := Lib.hid ew2; clear ew2
  go_enter Tryz.func66, Tryz.ntmps66
  go_wp2_with fail
  refine M.mono ?_
  rintro e w1 ⟨rfl, rfl⟩
  go_wp2_with fail
  refine V.mono ?_
  rintro e w3 ⟨rfl, rfl⟩
  go_wp2_with fail
  rw [← HW.out]
  refine NN.mono ?_
  rintro e w3 ⟨n, rfl, r1, rfl⟩
  have HR := Lib.hid r1; clear r1
  go_wp2_with fail
  go_ret
  exact ⟨_, _, _, rfl, HR.out, HBB.out⟩
set_option maxRecDepth 100000 in
theorem maww2 (w : World) (b cx : Nat) (cs : Array Value) (hb : WB w b cs) (hc0 : cs[0]? = some (.int .u64 0)) (hc1 : cs[1]? = some (.int .u64 1)) (hcx : 2 ≤ cx) :
    Calls Tryz.prog 66 #[.slice none 0 0, .slice (some ⟨b, 0, none⟩) 2 cx, .int .u64 1, .int .u64 0] w fun e w' => ∃ A n c, e = .returned (.slice A n c) ∧ NumS w' w.heap.size A n c 18446744073709551616 ∧ Below w.heap.size w w' := by
  have M := make_new none 0 3 0 (by omega) (by omega) (by omega) w
  obtain ⟨h, eh⟩ : ∃ h, h = w.heap.size := ⟨_, rfl⟩
  obtain ⟨z, ez⟩ : ∃ z, z = zw 7 := ⟨_, rfl⟩
  obtain ⟨w0, ew0⟩ : ∃ w0, w0 = w.alloc (.cells z 62) := ⟨_, rfl⟩
  rw [show zw (3 + 4) = z from ez.symm, ← ew0, ← eh] at M
  have hz : WB w0 h z := by rw [ew0, eh]; exact heap_alloc_new w _
  have hzs : z.size = 7 := by rw [ez]; exact zw_size 7
  have hbl := hb.lt
  have hb0 : WB w0 b cs := by rw [ew0]; exact (Below.heap_alloc w _ b hbl).trans hb
  have V := vww2 h b 7 cx z cs w0 hz hzs hb0 (by omega) hc0 hc1 (by omega) hcx
  obtain ⟨w1, ew1⟩ : ∃ w1, w1 = (w0.setCell ⟨h, 0, none⟩ (.int .u64 0)).setCell ⟨h, 1, none⟩ (.int .u64 1) := ⟨_, rfl⟩
  have hz1 : WB w1 h ((z.setIfInBounds 0 (.int .u64 0)).setIfInBounds 1 (.int .u64 1)) := by rw [ew1]; exact block_setCell (block_setCell hz 0 _) 1 _
  have hs := set01 z (.int .u64 0) (.int .u64 1) (by omega)
  obtain ⟨u1, b1⟩ : ∃ u, w1.cell? ⟨h, 2, none⟩ = some u := ⟨_, (cell_of_block hz1 2).trans (Array.getElem?_eq_getElem (by rw [Array.size_setIfInBounds, Array.size_setIfInBounds]; omega))⟩
  have f1 := free_of_block hz1 2
  rw [← ew1] at V
  obtain ⟨w2, ew2⟩ : ∃ w2, w2 = w1.setCell ⟨h, 2, none⟩ (.int .u64 0) := ⟨_, rfl⟩
  obtain ⟨z2, ez2⟩ : ∃ z2, z2 = ((z.setIfInBounds 0 (.int .u64 0)).setIfInBounds 1 (.int .u64 1)).setIfInBounds 2 (.int .u64 0) := ⟨_, rfl⟩
  have hz2 : WB w2 h z2 := by rw [ew2, ez2]; exact block_setCell hz1 2 _
  have d0 : z2[0]? = some (.int .u64 0) := by rw [ez2, Array.getElem?_setIfInBounds, if_neg (by decide)]; exact hs.1
  have d1 : z2[1]? = some (.int .u64 1) := by rw [ez2, Array.getElem?_setIfInBounds, if_neg (by decide)]; exact hs.2.1
  have d2 : z2[2]? = some (.int .u64 0) := by rw [ez2, Array.getElem?_setIfInBounds, if_pos rfl, if_pos (by rw [Array.size_setIfInBounds, Array.size_setIfInBounds]; omega)]
  have dz : z2.size = 7 := by rw [ez2, Array.size_setIfInBounds]; exact hs.2.2.2.trans hzs
  have HB : Below w.heap.size w w2 := by
    rw [ew2, ew1, ew0, eh]; exact Below.setCell (Below.setCell (Below.setCell ((Below.refl _ _).alloc (Nat.le_refl _) _) (Nat.le_refl _) _) (Nat.le_refl _) _) (Nat.le_refl _) _
  have NN := norm_ok (some ⟨h, 0, none⟩) 3 2 7 (by omega) (by omega) w2 (by omega) (fun i h1 h2 => ⟨h, rfl, by rw [show i = 2 from by omega]; exact (cell_of_block hz2 2).trans d2⟩) (Or.inr ⟨h, 1, rfl, (cell_of_block hz2 1).trans d1, by omega⟩)
  have HN : NumS w2 h (some ⟨h, 0, none⟩) 2 7 18446744073709551616 := NumS.mk2 hz2 (Nat.le_refl _) dz (by omega) d0 d1 (Nat.le_refl _)
  have T := mulAddVWW_enters
  rw [← eh] at HB ⊢
  have HBB := Lib.hid (And.intro HB HN)
  have HE := Lib.hid (And.intro ew0 (And.intro eh ew1))
  clear hb hc0 hc1 hz hzs hbl hb0 hz1 hz2 hs HB ew0 eh ew1 ez d0 d1 d2 dz ez2 HN
  have HW := Lib.hid ew2; clear ew2
  go_enter Tryz.func66, Tryz.ntmps66
  go_wp2_with fail
  refine M.mono ?_
  rintro e w1 ⟨rfl, rfl⟩
  go_wp2_with fail
  refine V.mono ?_
  rintro e w3 ⟨rfl, rfl⟩
  go_wp2_with fail
  rw [← HW.out]
  refine NN.mono ?_
  rintro e w3 ⟨rfl, rfl⟩
  go_wp2_with fail
  go_ret
  exact ⟨_, _, _, rfl, HBB.out.2, HBB.out.1⟩
/-- nat.mul: a number up to 2^64 by one word, where the product is 2^64 at most. -/
theorem mul_ok (w : World) (Bx By x y p lx cx ly cy : Nat) (Ax Ay : Option Addr) (hx : NumS w Bx Ax lx cx x) (hy : NumS w By Ay ly cy y) (hx0 : 0 < x) (hy0 : 0 < y) (hy2 : y < 9223372036854775808) (hp : x * y = p) (hp2 : p ≤ 18446744073709551616) :
    Calls Tryz.prog 55 #[.slice none 0 0, .pointer none, .slice Ax lx cx, .slice Ay ly cy] w fun e w' => ∃ A n c, e = .returned (.slice A n c) ∧ NumS w' w.heap.size A n c p ∧ Below w.heap.size w w' := by
  obtain ⟨rfl, by_, csy, rfl, -, hby, hcy, hy1, hy8, hyc⟩ := hy.one hy0 (by omega)
  have yc := (cell_of_block hby 0).trans hyc
  have L : (lx = 1 ∨ lx = 2) ∧ Calls Tryz.prog 66 #[.slice none 0 0, .slice Ax lx cx, .int .u64 (y : Nat), .int .u64 0] w fun e w' => ∃ A n c, e = .returned (.slice A n c) ∧ NumS w' w.heap.size A n c p ∧ Below w.heap.size w w' := by
    rcases Nat.lt_or_ge x 18446744073709551616 with hl | hl
    · obtain ⟨rfl, b, cs, rfl, -, hb, hc, h1, h8, h0⟩ := hx.one hx0 hl
      exact ⟨Or.inl rfl, maww1 w b cx x y p cs hb h0 h1 hx0 hl hy0 (by omega) hp hp2⟩
    · have hxx : x = 18446744073709551616 := by
        refine Nat.le_antisymm ?_ hl
        refine Nat.le_trans ?_ hp2
        rw [← hp]
        exact Nat.le_mul_of_pos_right x hy0
      have hyy : y = 1 := by
        refine Nat.le_antisymm (Nat.le_of_lt_succ ?_) hy0
        refine Nat.lt_of_not_le fun h => ?_
        have : x * 2 ≤ x * y := Nat.mul_le_mul_left _ h
        omega
      obtain ⟨rfl, b, cs, rfl, -, hb, hc, h1, h8, h0, hh⟩ := hx.two hl
      have hp' : p = 18446744073709551616 := by rw [← hp, hyy, Nat.mul_one, hxx]
      rw [hxx] at h0
      rw [hyy, hp']
      exact ⟨Or.inr rfl, maww2 w b cx cs hb h0 hh h1⟩
  obtain ⟨hl, L⟩ := L
  clear hx hy hx0 hy0 hy2 hp hp2 hby hcy hy8 hyc
  rcases hl with rfl | rfl
  all_goals
    go_enter Tryz.func55, Tryz.ntmps55
    go_wp2_with fail
    refine L.mono ?_
    rintro e w1 ⟨A, n, c, rfl, r1, r2⟩
    have HR := Lib.hid (And.intro r1 r2); clear r1 r2
    go_wp2_with fail
    go_ret
    exact ⟨_, _, _, rfl, HR.out⟩
end Go.Proofs.YtabgeonlodmpiaaGreatDoor
