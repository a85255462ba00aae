/- math/big: setWord, divWVW, divW, nat.div by one word. -/
import Derived.Test.YtabgeonlodmpiaaGreatDoorDWW
set_option linter.unusedVariables false
namespace Go.Proofs.YtabgeonlodmpiaaGreatDoor
open Go.RowKit

/-- Other blocks of words are as they were. -/
def Oth (w w' : World) (A : Option Addr) : Prop := ∀ b cs, WB w b cs → A ≠ some ⟨b, 0, none⟩ → WB w' b cs
theorem Oth.refl (w : World) (A : Option Addr) : Oth w w A := fun _ _ h _ => h
theorem Oth.keep {w w' : World} (k : Below w.heap.size w w') (A : Option Addr) : Oth w w' A := fun b cs h _ => (k.block b (lt_of_block h)).trans h
theorem NumS.oth {w w' : World} {B v n cap : Nat} {A X : Option Addr} (h : NumS w B A n cap v) (k : Oth w w' X) (hne : ∀ b, A = some ⟨b, 0, none⟩ → X ≠ some ⟨b, 0, none⟩) : NumS w' B A n cap v := by
  obtain ⟨hs, h1, h2, h3⟩ := h
  rcases hs with ⟨rfl, rfl⟩ | ⟨b, cs, rfl, hB, hb, hc⟩
  · refine ⟨Or.inl ⟨rfl, rfl⟩, h1, h2, fun j x e => ?_⟩
    obtain ⟨b', e', _⟩ := h3 j x e
    cases e'
  · have hb' := k b cs hb (hne b rfl)
    refine ⟨Or.inr ⟨b, cs, rfl, hB, hb', hc⟩, h1, h2, fun j x e => ?_⟩
    obtain ⟨b', e', hcl⟩ := h3 j x e
    cases e'
    exact ⟨b, rfl, ((cell_of_block hb' j).trans (cell_of_block hb j).symm).trans hcl⟩

/-- nat.setWord. -/
theorem setWord_ok (w : World) (B v l cap : Nat) (A : Option Addr) (h : SLc w B A cap) (hl : l ≤ cap) (hB : B ≤ w.heap.size) (hv : v < 18446744073709551616) :
    Calls Tryz.prog 59 #[.slice A l cap, .int .u64 (v : Nat)] w fun e w' => ∃ A' n c, e = .returned (.slice A' n c) ∧ NumS w' B A' n c v ∧ Fm B w w' ∧ Oth w w' A ∧ (A' = A ∨ ∃ b, A' = some ⟨b, 0, none⟩ ∧ w.heap.size ≤ b) := by
  by_cases h0 : v = 0
  · subst h0
    have h8 := h.le
    have H := Lib.hid h; clear h
    go_enter Tryz.func59, Tryz.ntmps59
    go_wp2_with fail
    go_ret
    exact ⟨_, _, _, rfl, NumS.zero H.out, Fm.refl _ _, Oth.refl _ _, Or.inl rfl⟩
  · have M := make_any w B A l 1 cap h hl (by omega) (by omega) hB
    have k0 : ((v : Int) == 0) = false := decide_eq_false (by omega)
    have HQ := Lib.hid (fun (w' : World) (h' c : Nat) (cs : Array Value) (hm : Made w w' B 1 h' c cs) (hw : w' = w ∧ A = some ⟨h', 0, none⟩ ∨ h' = w.heap.size) =>
      show (∃ u, w'.cell? ⟨h', 0, none⟩ = some u) ∧ w'.frozen? ⟨h', 0, none⟩ = false ∧ NumS (w'.setCell ⟨h', 0, none⟩ (.int .u64 (v : Nat))) B (some ⟨h', 0, none⟩) 1 c v ∧ Fm B w (w'.setCell ⟨h', 0, none⟩ (.int .u64 (v : Nat))) ∧
        Oth w (w'.setCell ⟨h', 0, none⟩ (.int .u64 (v : Nat))) A ∧ (some ⟨h', 0, none⟩ = A ∨ ∃ b, (some ⟨h', 0, none⟩ : Option Addr) = some ⟨b, 0, none⟩ ∧ w.heap.size ≤ b) from by
      have hlt : 0 < cs.size := by rw [hm.size]; have := hm.le; omega
      have hb1 := block_setCell hm.wb 0 (.int .u64 (v : Nat))
      have hO : Only h' w' (w'.setCell ⟨h', 0, none⟩ (.int .u64 (v : Nat))) := (Only.refl h' w').setCell rfl _
      refine ⟨⟨_, (cell_of_block hm.wb 0).trans (Array.getElem?_eq_getElem hlt)⟩, free_of_block hm.wb 0, NumS.mk1 hb1 hm.from_ (by rw [Array.size_setIfInBounds]; exact hm.size) hm.le8 ?_ (by omega) hv,
        (Fm.keep hm.kept hB).trans (Fm.only hO hm.wb hm.from_), fun b cs' hb hne => ?_, ?_⟩
      · rw [Array.getElem?_setIfInBounds, if_pos rfl, if_pos hlt]
      · have hb' : WB w' b cs' := Below.wb hm.kept hb
        have hbh : b ≠ h' := by
          rcases hw with ⟨rfl, e⟩ | e
          · intro eb; subst eb; exact hne e
          · have := hb.lt; omega
        exact (hO.block b hbh).trans hb'
      · rcases hw with ⟨_, e⟩ | e
        · exact Or.inl e.symm
        · exact Or.inr ⟨_, rfl, by omega⟩)
    clear h hv h0
    go_enter Tryz.func59, Tryz.ntmps59
    go_wp2_with fail
    refine M.mono ?_
    rintro e w1 ⟨h', c, cs, rfl, hm, hw⟩
    obtain ⟨⟨u, r1⟩, r2, r3⟩ := HQ.out w1 h' c cs hm hw
    have hc1 : 1 ≤ c := hm.le
    have HR := Lib.hid r3; clear r3 hm hw
    go_wp2_with fail
    go_ret
    exact ⟨_, _, _, rfl, HR.out⟩
/-- nat.set of nothing. -/
theorem set_zero (w : World) (A : Option Addr) (c : Nat) :
    Calls Tryz.prog 50 #[.slice none 0 0, .slice A 0 c] w fun e w' => e = .returned (.slice none 0 0) ∧ w' = w := by
  have M := make_in none 0 0 0 (by omega) (by omega) (by omega) w
  have hcp : ∀ (W : World), (Builtin.copy_ #[55, 55] 3 #[.slice none 0 0, .slice A 0 c]).run Tryz.prog W = .ok (goInt 0) W := fun W =>
    run_copy_none W 55 55 3 62 none A 0 0 0 c Tryz.underlying55 (by kernel_rfl) rfl
  go_enter Tryz.func50, Tryz.ntmps50
  go_wp2_with fail
  refine M.mono ?_
  rintro e w1 ⟨rfl, rfl⟩
  go_wp2_with fail
  go_ret
  exact ⟨rfl, rfl⟩
/-- One word by one. -/
theorem divWVW1 (h cx n x q r : Nat) (Ax : Addr) (w : World) (hz : ∃ u, w.cell? ⟨h, 0, none⟩ = some u) (hf : w.frozen? ⟨h, 0, none⟩ = false) (hx : w.cell? Ax = some (.int .u64 (x : Nat))) (hcx : 1 ≤ cx)
    (hn : 0 < n) (hn2 : n < 18446744073709551616) (hx2 : x < 18446744073709551616) (eq : x / n = q) (er : x % n = r) :
    Calls Tryz.prog 92 #[.slice (some ⟨h, 0, none⟩) 1 1, .int .u64 0, .slice (some Ax) 1 cx, .int .u64 (n : Nat)] w fun e w' => e = .returned (.int .u64 (r : Nat)) ∧ ∃ m, w' = (w.drewN m).setCell ⟨h, 0, none⟩ (.int .u64 (q : Nat)) := by
  have D := Div_small x n q r w hn hn2 hx2 eq er
  obtain ⟨u, hz⟩ := hz
  have hz' := fun m => show (w.drewN m).cell? ⟨h, 0, none⟩ = some u from hz
  have hf' := fun m => show (w.drewN m).frozen? ⟨h, 0, none⟩ = false from hf
  clear eq er hn hn2 hx2
  go_enter Tryz.func92, Tryz.ntmps92
  go_wp2_with fail
  refine D.mono ?_
  rintro e w1 ⟨rfl, m, rfl⟩
  have a1 := hz' m
  have a2 := hf' m
  go_wp2_with fail
  go_ret
  exact ⟨rfl, m, rfl⟩
/-- How far a word is to be shifted. -/
theorem norm_ex {n : Nat} (h0 : 0 < n) (h1 : n < 9223372036854775808) : ∃ s, 9223372036854775808 ≤ n * 2 ^ s ∧ n * 2 ^ s < 18446744073709551615 := by
  obtain ⟨a, b, c⟩ := Lib.bitLenAux_bounds 64 n (by omega) (by omega)
  obtain ⟨L, eL⟩ : ∃ L, L = Lib.bitLenAux 64 n := ⟨_, rfl⟩
  rw [← eL] at a b c
  have hL : L ≤ 63 := by
    refine Nat.le_of_not_lt fun h => ?_
    have : 2 ^ 63 ≤ 2 ^ (L - 1) := Nat.pow_le_pow_right (by decide) (by omega)
    have e : (2 : Nat) ^ 63 = 9223372036854775808 := by decide
    omega
  have hp : 0 < 2 ^ (64 - L) := Nat.two_pow_pos _
  have e63 : 2 ^ (L - 1) * 2 ^ (64 - L) = 9223372036854775808 := by
    rw [← Nat.pow_add, show L - 1 + (64 - L) = 63 from by omega]
  have e64 : 2 ^ L * 2 ^ (64 - L) = 18446744073709551616 := by
    rw [← Nat.pow_add, show L + (64 - L) = 64 from by omega]
  have h2 : 2 ∣ n * 2 ^ (64 - L) := Nat.dvd_mul_left_of_dvd (Nat.dvd_trans ⟨2 ^ (63 - L), by rw [show 64 - L = 63 - L + 1 from by omega, Nat.pow_succ, Nat.mul_comm]⟩ (Nat.dvd_refl _)) n
  refine ⟨64 - L, ?_, ?_⟩
  · rw [← e63]; exact Nat.mul_le_mul_right _ b
  · have : n * 2 ^ (64 - L) < 18446744073709551616 := by rw [← e64]; exact Nat.mul_lt_mul_of_pos_right c hp
    omega
set_option maxRecDepth 100000 in
/-- 2^64 by one word that is 2 at the least. -/
theorem divWVW2 (h bx cx n q : Nat) (cz cs : Array Value) (w : World) (hz : WB w h cz) (hzs : cz.size = 6) (hx : WB w bx cs) (hne : bx ≠ h) (hx0 : cs[0]? = some (.int .u64 0)) (hx1 : cs[1]? = some (.int .u64 1)) (hcx : 2 ≤ cx)
    (hn : 2 ≤ n) (hn2 : n < 9223372036854775808) (eq : 18446744073709551616 / n = q) :
    Calls Tryz.prog 92 #[.slice (some ⟨h, 0, none⟩) 2 6, .int .u64 0, .slice (some ⟨bx, 0, none⟩) 2 cx, .int .u64 (n : Nat)] w fun e w' => ∃ r : Nat, e = .returned (.int .u64 (r : Nat)) ∧ r < 18446744073709551616 ∧
      w' = (w.setCell ⟨h, 1, none⟩ (.int .u64 0)).setCell ⟨h, 0, none⟩ (.int .u64 (q : Nat)) := by
  obtain ⟨s, n1, n2⟩ := norm_ex (n := n) (by omega) hn2
  obtain ⟨d, hd⟩ : ∃ d, d = n * 2 ^ s := ⟨_, rfl⟩
  rw [← hd] at n1 n2
  obtain ⟨m, hm⟩ : ∃ m, m = ((18446744073709551615 - d) * 18446744073709551616 + 18446744073709551615) / d := ⟨_, rfl⟩
  have RC := recip_ok n s d m w hd.symm n1 n2 hm.symm
  have hm2 := Dv.recip_lt n1 (by omega) hm.symm
  have D1 := fun W => divWW_hi n s d m W hd.symm hn hn2 n1 (by omega) hm2
  have D2 := fun W => divWW_lo n s d m q W hd.symm hn hn2 n1 (by omega) hm.symm eq
  obtain ⟨w2, e2⟩ : ∃ w2, w2 = w.setCell ⟨h, 1, none⟩ (.int .u64 0) := ⟨_, rfl⟩
  have hz2 : WB w2 h (cz.setIfInBounds 1 (.int .u64 0)) := by rw [e2]; exact block_setCell hz 1 _
  have hx2 : WB w2 bx cs := by rw [e2]; exact (Below.heap_setCell _ _ _ _ hne).trans hx
  have a0 : w.cell? ⟨bx, 1, none⟩ = some (.int .u64 1) := (cell_of_block hx 1).trans hx1
  have a1 : w2.cell? ⟨bx, 0, none⟩ = some (.int .u64 0) := (cell_of_block hx2 0).trans hx0
  obtain ⟨u1, b1⟩ : ∃ u, w.cell? ⟨h, 1, none⟩ = some u := ⟨_, (cell_of_block hz 1).trans (Array.getElem?_eq_getElem (by omega))⟩
  obtain ⟨u0, b0⟩ : ∃ u, w2.cell? ⟨h, 0, none⟩ = some u := ⟨_, (cell_of_block hz2 0).trans (Array.getElem?_eq_getElem (by rw [Array.size_setIfInBounds]; omega))⟩
  have f1 := free_of_block hz 1
  have f0 := free_of_block hz2 0
  rw [← e2]
  have HE := Lib.hid e2
  clear hz hx hne hx0 hx1 hn hn2 eq n1 n2 hd hm hm2 e2 hz2 hx2 hzs
  go_enter Tryz.func92, Tryz.ntmps92
  go_wp2_with fail
  refine RC.mono ?_
  rintro e w1 ⟨rfl, rfl⟩
  go_wp2_with fail
  go_loopg [8, 12] 2 (fun gh rv iv wr => (gh = 2 ∧ rv = .int .u64 0 ∧ iv = .int .i64 1 ∧ w1 = wr) ∨ (gh = 1 ∧ rv = .int .u64 1 ∧ iv = .int .i64 0 ∧ w2 = wr) ∨ (gh = 0 ∧ (∃ r : Nat, rv = .int .u64 (r : Nat) ∧ r < 18446744073709551616) ∧ iv = .int .i64 (-1) ∧ wr = w2.setCell ⟨h, 0, none⟩ (.int .u64 (q : Nat))))
  case atStart => exact Or.inl ⟨rfl, rfl, rfl, rfl⟩
  case round =>
    rcases hrel with ⟨hgh, rfl, rfl, rfl⟩ | ⟨hgh, rfl, rfl, rfl⟩ | ⟨hgh, ⟨r, rfl, hr⟩, rfl, rfl⟩
    · have HG := Lib.hid hgh; clear hgh
      go_wp2_with fail
      refine (D1 _).mono ?_
      rintro e w1 ⟨rfl, rfl⟩
      go_wp2_with fail
      go_roundg 1
      case measure => have := HG.out; omega
      case rel => exact Or.inr (Or.inl ⟨rfl, rfl, rfl, HE.out⟩)
    · have HG := Lib.hid hgh; clear hgh
      go_wp2_with fail
      refine (D2 _).mono ?_
      rintro e w1 ⟨r, rfl, hr, rfl⟩
      have HR := Lib.hid hr; clear hr
      go_wp2_with fail
      go_roundg 0
      case measure => have := HG.out; omega
      case rel => exact Or.inr (Or.inr ⟨rfl, ⟨r, rfl, HR.out⟩, rfl, rfl⟩)
    · have HR := Lib.hid hr; clear hr hgh
      go_wp2_with fail
      go_ret
      exact ⟨r, rfl, HR.out, rfl⟩
end Go.Proofs.YtabgeonlodmpiaaGreatDoor
