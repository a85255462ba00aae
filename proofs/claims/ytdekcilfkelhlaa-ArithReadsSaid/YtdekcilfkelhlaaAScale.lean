/- scale. -/
import Derived.Test.YtdekcilfkelhlaaACoder
import Derived.Outline
import Derived.WalkMore
import Derived.Deep.CutBlock
import Derived.Deep.DeepCutAuto
set_option linter.unusedVariables false
namespace Go.Proofs.Ytdekcilfkelhlaa
open Go.RowKit

/-- What one round of scaling subtracts, and what it puts out. -/
def pick (s : St) : Option (Nat × List Bool × Nat) :=
  if s.hi < 2147483648 then some (0, s.out ++ (false :: List.replicate s.dl true), 0)
  else if 2147483648 ≤ s.lo then some (2147483648, s.out ++ (true :: List.replicate s.dl false), 0)
  else if 1073741824 ≤ s.lo ∧ s.hi < 3221225472 then some (1073741824, s.out, s.dl + 1)
  else none
def shift (bit : Nat → Nat) (s : St) (x : Nat) (o : List Bool) (d : Nat) : St :=
  { lo := 2 * (s.lo - x), hi := 2 * (s.hi - x) + 1, dl := d, cnt := s.cnt, out := o, num := (2 * (s.num + (18446744073709551616 - x)) + bit s.at_) % 18446744073709551616, at_ := s.at_ + 1 }
def scaleN (bit : Nat → Nat) : Nat → St → St
  | 0, s => s
  | k + 1, s => match pick s with
    | none => s
    | some (x, o, d) => scaleN bit k (shift bit s x o d)
theorem scaleN_none {bit : Nat → Nat} {s : St} (h : pick s = none) (k : Nat) : scaleN bit k s = s := by
  cases k with
  | zero => rfl
  | succ k => simp only [scaleN, h]
theorem scaleN_some {bit : Nat → Nat} {s : St} {x : Nat} {o : List Bool} {d : Nat} (h : pick s = some (x, o, d)) (k : Nat) : scaleN bit (k + 1) s = scaleN bit k (shift bit s x o d) := by
  simp only [scaleN, h]

structure Good (s : St) : Prop where
  le : s.lo ≤ s.hi
  hi : s.hi < 4294967296
  out : s.out.length + s.dl ≤ s.at_
  num : s.num < 18446744073709551616
theorem pick_some {s : St} {x : Nat} {o : List Bool} {d : Nat} (h : pick s = some (x, o, d)) (hs : s.lo ≤ s.hi) (hh : s.hi < 4294967296) :
    x ≤ s.lo ∧ 2 * (s.hi - x) + 1 < 4294967296 ∧ o.length + d = s.out.length + s.dl + 1 ∧ (x = 0 ∨ x = 2147483648 ∨ x = 1073741824) := by
  unfold pick at h
  split at h
  · injection h with h; injection h with h1 h; injection h with h2 h3
    subst h1 h2 h3
    refine ⟨by omega, by omega, by simp; omega, Or.inl rfl⟩
  split at h
  · injection h with h; injection h with h1 h; injection h with h2 h3
    subst h1 h2 h3
    refine ⟨by omega, by omega, by simp; omega, Or.inr (Or.inl rfl)⟩
  split at h
  · injection h with h; injection h with h1 h; injection h with h2 h3
    subst h1 h2 h3
    refine ⟨by omega, by omega, by omega, Or.inr (Or.inr rfl)⟩
  · cases h

theorem COk.hi {X : Box} {w : World} {F : List Nat} {s : St} {sh : Nat} (h : COk X w F s sh) (x : Nat) : COk X w F { s with hi := x } sh := by
  obtain ⟨cs, h⟩ := h
  exact ⟨cs, h.wok, h.c0, h.c1, h.c2, h.c3, h.c6, h.c7, h.c8, h.c9, h.row, h.far, h.few, h.byte⟩
theorem num_val (n x b : Nat) (hx : x ≤ 2147483648) : IntKind.u64.wrap (IntKind.u64.wrap (2 * IntKind.u64.wrap ((n : Int) - (x : Int))) + (b : Int)) = (((2 * (n + (18446744073709551616 - x)) + b) % 18446744073709551616 : Nat) : Int) := by
  rw [IntKind.wrap_u64, IntKind.wrap_u64, IntKind.wrap_u64]
  omega

structure ScRel (X : Box) (F : List Nat) (w : World) (s : St) (sh k : Nat) (t : St) (F' : List Nat) (wr : World) : Prop where
  c : COk X wr F' t sh
  fr : Fr F w F' wr
  eq : scaleN X.bit 16 s = scaleN X.bit k t
  good : Good t
  fuel : 4294967296 < (t.hi - t.lo + 1) * 2 ^ k
  at_ : t.at_ + k ≤ 1000000

set_option maxRecDepth 100000 in
set_option maxHeartbeats 1000000 in
theorem scale_ok {X : Box} {F : List Nat} {s : St} {sh : Nat} (w : World) (h : COk X w F s sh) (hsh : s.hi + sh = 4294967295) (hB : X.B ≤ w.heap.size) (hg : Good s) (hr : 131072 ≤ s.hi - s.lo + 1) (ha : s.at_ ≤ 900000) :
    Calls Try.prog 66 #[.pointer (some ⟨X.bw, 0, none⟩)] w fun e w' => e = .returned (.tuple #[]) ∧ ∃ F', COk X w' F' (scaleN X.bit 16 s) (4294967295 - (scaleN X.bit 16 s).hi) ∧ Fr F w F' w' := by
  have HH := Lib.hid h; clear h
  have H0 := Lib.hid (And.intro hsh hB); clear hsh hB
  go_enter Try.func66, Try.ntmps66
  go_wp2_with fail
  go_step3
  go_wp2_with fail
  refine (high_ok s.hi w HH.out H0.out.1).mono ?_
  rintro e w' ⟨rfl, rfl⟩
  go_wp2_with fail
  go_step3
  go_wp2_with fail
  go_loopg [2] 16 (fun gh hv wr => ∃ (k : Nat) (t : St) (F' : List Nat), gh = k ∧ hv = .int .u64 (t.hi : Nat) ∧ ScRel X F w s sh k t F' wr)
  case atStart => exact ⟨16, s, F, rfl, rfl, HH.out, Fr.refl _ _, rfl, hg, by omega, by omega⟩
  case round =>
    obtain ⟨k, t, F1, hgh, rfl, hR⟩ := hrel
    have Hgh := Lib.hid hgh; clear hgh
    have HR := Lib.hid hR; clear hR HH hr ha hg
    obtain ⟨c0, _, c2, _, c6, _, _, hf⟩ := HR.out.c.cells
    have hle := HR.out.good.le
    have hhi := HR.out.good.hi
    have hout := HR.out.good.out
    have hat := HR.out.at_
    have hnum := HR.out.good.num
    have f2 := hf 2
    have f1 := hf 1
    clear hf
    rcases hp : pick t with _ | ⟨x, o, d⟩
    · have hend : ∀ wf : World, wf = wr.setCell ⟨X.bw, 1, none⟩ (.int .u64 ((4294967295 - t.hi : Nat) : Int)) → ∃ F', COk X wf F' (scaleN X.bit 16 s) (4294967295 - (scaleN X.bit 16 s).hi) ∧ Fr F w F' wf := by
        rintro wf rfl
        rw [HR.out.eq, scaleN_none hp]
        exact ⟨F1, HR.out.c.set_sh _, HR.out.fr.store HR.out.c.head 1 _⟩
      have HE := Lib.hid hend; clear hend
      unfold pick at hp
      split at hp
      · cases hp
      rename_i n1
      split at hp
      · cases hp
      rename_i n2
      split at hp
      · cases hp
      rename_i n3
      clear hp
      have i1 : (2147483648 : Int) ≤ (t.hi : Nat) := by omega
      have i2 : ((t.lo : Nat) : Int) < 2147483648 := by omega
      clear n1 n2
      have d1 : decide (((t.hi : Nat) : Int) < 2147483648) = false := decide_eq_false (by omega)
      have d2 : decide ((2147483648 : Int) ≤ (t.lo : Nat)) = false := decide_eq_false (by omega)
      rcases Nat.lt_or_ge t.lo 1073741824 with hq | hq
      · have d3 : decide ((1073741824 : Int) ≤ (t.lo : Nat)) = false := decide_eq_false (by omega)
        have i4 : (0 : Int) ≤ 4294967295 - (t.hi : Nat) := by omega
        clear n3 hq hle hout hnum hat c2 c6 f2
        go_wp2_with fail
        rw [Exit.noGoto_normal]
        go_end0
        exact ⟨rfl, HE.out _ (by rw [show ((4294967295 - t.hi : Nat) : Int) = 4294967295 - (t.hi : Int) from by omega])⟩
      · have d3 : decide ((1073741824 : Int) ≤ (t.lo : Nat)) = true := decide_eq_true (by omega)
        have d4 : decide (((t.hi : Nat) : Int) < 3221225472) = false := decide_eq_false (by omega)
        clear n3 hq hle hout hnum hat c2 c6 f2
        go_wp2_with fail
        rw [Exit.noGoto_normal]
        go_end0
        exact ⟨rfl, HE.out _ (by rw [show ((4294967295 - t.hi : Nat) : Int) = 4294967295 - (t.hi : Int) from by omega])⟩
    · obtain ⟨k', rfl⟩ : ∃ k', k = k' + 1 := by
        rcases k with _ | k'
        · have := HR.out.fuel; simp at this; omega
        · exact ⟨k', rfl⟩
      obtain ⟨hx1, hx2, hx3, hx4⟩ := pick_some hp hle hhi
      have HP := Lib.hid (And.intro hp (And.intro hx3 hx4))
      have hxb : x ≤ 2147483648 := by rcases hx4 with rfl | rfl | rfl <;> omega
      have hdl : t.dl ≤ 1000000 := by omega
      have hB := Nat.le_trans H0.out.2 HR.out.fr.size
      have HB := Lib.hid hB
      go_upto_block 2 with fail
      go_cut [3] (fun bv wx => bv = .int .u64 (x : Nat) ∧ ∃ F2, COk X wx F2 { t with out := o, dl := d } sh ∧ Fr F1 wr F2 wx)
      case first =>
        clear hx1 hx2 hx3 hx4 hxb hB
        unfold pick at hp
        split at hp
        · rename_i n1
          injection hp with hp; injection hp with h1 hp; injection hp with h2 h3
          subst h1 h2 h3
          have d1 : decide (((t.hi : Nat) : Int) < 2147483648) = true := decide_eq_true (by omega)
          clear n1
          go_wp2_with fail
          refine (put_ok' false _ HR.out.c HB.out (by omega)).mono ?_
          rintro e w' ⟨rfl, hq⟩
          have HQ := Lib.hid hq; clear hq
          go_wp2_with fail
          go_meet
          exact ⟨rfl, HQ.out⟩
        rename_i n1
        have d1 : decide (((t.hi : Nat) : Int) < 2147483648) = false := decide_eq_false (by omega)
        clear n1
        split at hp
        · rename_i n1
          injection hp with hp; injection hp with h1 hp; injection hp with h2 h3
          subst h1 h2 h3
          have d2 : decide ((2147483648 : Int) ≤ (t.lo : Nat)) = true := decide_eq_true (by omega)
          clear n1
          go_wp2_with fail
          refine (put_ok' true _ HR.out.c HB.out (by omega)).mono ?_
          rintro e w' ⟨rfl, hq⟩
          have HQ := Lib.hid hq; clear hq
          go_wp2_with fail
          go_meet
          exact ⟨rfl, HQ.out⟩
        rename_i n1
        have d2 : decide ((2147483648 : Int) ≤ (t.lo : Nat)) = false := decide_eq_false (by omega)
        clear n1
        split at hp
        · rename_i n1
          injection hp with hp; injection hp with h1 hp; injection hp with h2 h3
          subst h1 h2 h3
          have d3 : decide ((1073741824 : Int) ≤ (t.lo : Nat)) = true := decide_eq_true (by omega)
          have d4 : decide (((t.hi : Nat) : Int) < 3221225472) = true := decide_eq_true (by omega)
          clear n1
          go_wp2_with fail
          go_meet
          exact ⟨rfl, F1, HR.out.c.set_dl (t.dl + 1), (Fr.refl _ _).store HR.out.c.head 2 _⟩
        · cases hp
      case rest =>
        obtain ⟨rfl, F2, h2, fr2⟩ := hcut
        obtain ⟨c0, _, _, _, c6, _, _, hf⟩ := h2.cells
        have f0 := hf 0
        clear hf c2 f2 f1 HB hB
        have H2 := Lib.hid (And.intro h2 fr2); clear h2 fr2 hp hx3 hx4
        have i0 : (x : Int) ≤ (t.lo : Nat) := by omega
        have i1 : (x : Int) ≤ (t.hi : Nat) := by omega
        go_upto_region 10 with fail
        go_cut [2] (fun hv wx => hv = .int .u64 ((2 * (t.hi - x) + 1 : Nat) : Int) ∧ COk X wx F2 { t with out := o, dl := d, lo := 2 * (t.lo - x) } sh ∧ Fr F1 wr F2 wx)
        case first =>
          go_wp2_with fail
          go_meet
          refine ⟨?_, ?_, H2.out.2.store H2.out.1.head 0 _⟩
          · exact congrArg (Value.int .u64) (by omega)
          · have := H2.out.1.set_lo (2 * (t.lo - x))
            rw [show ((2 * (t.lo - x) : Nat) : Int) = 2 * ((t.lo : Int) - (x : Int)) from by omega] at this
            exact this
        case rest =>
          obtain ⟨rfl, h3, fr3⟩ := hcut
          obtain ⟨_, _, _, _, c6, _, _, hf⟩ := h3.cells
          have f6 := hf 6
          clear hf c0 f0
          have H3 := Lib.hid (And.intro h3 fr3); clear h3 fr3 H2
          go_upto_region 11 with fail
          go_region_with (
              (refine (next_ok _ (H3.out.1.drewN _) (by show t.at_ ≤ _; omega)).mono ?_
               rintro e w3 ⟨rfl, h4, fr4⟩
               obtain ⟨_, _, _, _, c6', _, _, hf'⟩ := h4.cells
               have f6' := hf' 6
               have H4 := Lib.hid (And.intro h4 fr4); clear h4 fr4 hf'))
          all_goals
            have hv := num_val t.num x (X.bit t.at_) hxb
            rw [hv]
            clear hv
            obtain ⟨nv, env⟩ : ∃ nv, nv = (2 * (t.num + (18446744073709551616 - x)) + X.bit t.at_) % 18446744073709551616 := ⟨_, rfl⟩
            rw [← env]
            have hend : COk X (w3.setCell ⟨X.bw, 6, none⟩ (.int .u64 (nv : Nat))) F2 (shift X.bit t x o d) sh := by
              unfold shift
              rw [← env]
              exact (H4.out.1.set_num nv).hi _
            have hfr := (((H3.out.2.drewN _).only H4.out.2 H3.out.1.head).store H3.out.1.head 6 (.int .u64 (nv : Nat)))
            have Henv := Lib.hid env; clear env
            have HE := Lib.hid (And.intro hend hfr)
            clear hend hfr
            go_wp2_with fail
            go_roundg k'
            case measure => have := Hgh.out; omega
            case rel =>
              refine ⟨k', shift X.bit t x o d, F2, rfl, rfl, HE.out.1, HR.out.fr.trans HE.out.2, ?_, ?_, ?_, ?_⟩
              · rw [HR.out.eq, scaleN_some HP.out.1]
              · exact ⟨by simp only [shift]; omega, by simp only [shift]; omega, by simp only [shift]; have := HP.out.2.1; omega, by simp only [shift]; omega⟩
              · have := HR.out.fuel
                rw [Nat.pow_succ] at this
                simp only [shift]
                have e : 2 * (t.hi - x) + 1 - 2 * (t.lo - x) + 1 = 2 * (t.hi - t.lo + 1) := by omega
                rw [e]
                calc 4294967296 < (t.hi - t.lo + 1) * (2 ^ k' * 2) := this
                  _ = 2 * (t.hi - t.lo + 1) * 2 ^ k' := by rw [Nat.mul_comm (2 ^ k') 2, ← Nat.mul_assoc, Nat.mul_comm _ 2]
              · simp only [shift]; omega
end Go.Proofs.Ytdekcilfkelhlaa
