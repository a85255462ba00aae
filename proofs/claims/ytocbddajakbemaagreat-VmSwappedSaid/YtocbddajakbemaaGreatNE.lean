/- vm, the program's own front end: right at no depth; at what is no operation. vm, the program's own front end: right at operation 1. -/
import Derived.Test.YtocbddajakbemaaGreatND
set_option linter.unusedVariables false
set_option linter.unusedSimpArgs false
set_option linter.unusedSimpArgs false
namespace Go.Proofs.YtocbddajakbemaaGreat
section
open Go.RowKit
set_option maxRecDepth 100000 in
set_option maxHeartbeats 8000000 in
theorem right_zero_1 (n : Int) (nm : ByteArray) (EA : Option Addr) (me ec : Nat) (BA : Option Addr) (mb bc : Nat) (LA : Option Addr) (ml lc : Nat) (w : World) (K : Int) (hK : K ≤ 0) :
    Calls Tryz.prog 87 #[.agg #[.int .u8 1, .int .i64 n, .string nm, .slice EA me ec, .slice BA mb bc, .slice LA ml lc], .int .i64 K] w fun e w' => e = .returned (.bool false) ∧ Below w.heap.size w w' := by
  obtain ⟨w1, e1, RI⟩ := rtIn_new w 1 n nm EA me ec BA mb bc LA ml lc
  obtain ⟨g, eg⟩ : ∃ g, g = w.heap.size := ⟨_, rfl⟩
  rw [← eg] at RI
  obtain ⟨f0, f1, f2, f3, f4, f5⟩ := RI.facts
  have dK : decide (K ≤ 0) = true := decide_eq_true hK
  clear hK
  have HRI := Lib.hid RI
  clear RI
  go_enter Tryz.func87, Tryz.ntmps87
  go_upto_region 1 with fail
  rw [← e1, ← eg]
  clear e1 eg
  go_upto_region 2 with fail
  go_quiet (fail)
  obtain ⟨W, eW⟩ : ∃ W, W = w1.drewN nq := ⟨_, rfl⟩
  rw [← eW]
  have hbx : Below w1.heap.size w1 W := by rw [eW]; exact below_drewN (Below.refl _ _) _
  clear eW f0 f1 f2 f3 f4 f5
  have RI := HRI.out.below hbx
  obtain ⟨f0, f1, f2, f3, f4, f5⟩ := RI.facts
  have HRW := Lib.hid RI
  clear RI hbx HRI
  go_upto_region 11 with fail
  repeat (first | go_values | go_skip | (rename_i hX; with_reducible refine WZ.enter hX ?_; clear hX; (try dsimp only [List.append]); with_reducible refine WZ.mk ?_) | go_guarded | go_step | go_upon)
  go_ret
  exact ⟨rfl, HRW.out.hb⟩
set_option maxRecDepth 100000 in
set_option maxHeartbeats 8000000 in
theorem right_zero_2 (n : Int) (nm : ByteArray) (EA : Option Addr) (me ec : Nat) (BA : Option Addr) (mb bc : Nat) (LA : Option Addr) (ml lc : Nat) (w : World) (K : Int) (hK : K ≤ 0) :
    Calls Tryz.prog 87 #[.agg #[.int .u8 2, .int .i64 n, .string nm, .slice EA me ec, .slice BA mb bc, .slice LA ml lc], .int .i64 K] w fun e w' => e = .returned (.bool false) ∧ Below w.heap.size w w' := by
  obtain ⟨w1, e1, RI⟩ := rtIn_new w 2 n nm EA me ec BA mb bc LA ml lc
  obtain ⟨g, eg⟩ : ∃ g, g = w.heap.size := ⟨_, rfl⟩
  rw [← eg] at RI
  obtain ⟨f0, f1, f2, f3, f4, f5⟩ := RI.facts
  have dK : decide (K ≤ 0) = true := decide_eq_true hK
  clear hK
  have HRI := Lib.hid RI
  clear RI
  go_enter Tryz.func87, Tryz.ntmps87
  go_upto_region 1 with fail
  rw [← e1, ← eg]
  clear e1 eg
  go_upto_region 2 with fail
  go_quiet (fail)
  obtain ⟨W, eW⟩ : ∃ W, W = w1.drewN nq := ⟨_, rfl⟩
  rw [← eW]
  have hbx : Below w1.heap.size w1 W := by rw [eW]; exact below_drewN (Below.refl _ _) _
  clear eW f0 f1 f2 f3 f4 f5
  have RI := HRI.out.below hbx
  obtain ⟨f0, f1, f2, f3, f4, f5⟩ := RI.facts
  have HRW := Lib.hid RI
  clear RI hbx HRI
  go_upto_region 11 with fail
  repeat (first | go_values | go_skip | (rename_i hX; with_reducible refine WZ.enter hX ?_; clear hX; (try dsimp only [List.append]); with_reducible refine WZ.mk ?_) | go_guarded | go_step | go_upon)
  go_ret
  exact ⟨rfl, HRW.out.hb⟩
set_option maxRecDepth 100000 in
set_option maxHeartbeats 8000000 in
theorem right_zero_3 (n : Int) (nm : ByteArray) (EA : Option Addr) (me ec : Nat) (BA : Option Addr) (mb bc : Nat) (LA : Option Addr) (ml lc : Nat) (w : World) (K : Int) (hK : K ≤ 0) :
    Calls Tryz.prog 87 #[.agg #[.int .u8 3, .int .i64 n, .string nm, .slice EA me ec, .slice BA mb bc, .slice LA ml lc], .int .i64 K] w fun e w' => e = .returned (.bool false) ∧ Below w.heap.size w w' := by
  obtain ⟨w1, e1, RI⟩ := rtIn_new w 3 n nm EA me ec BA mb bc LA ml lc
  obtain ⟨g, eg⟩ : ∃ g, g = w.heap.size := ⟨_, rfl⟩
  rw [← eg] at RI
  obtain ⟨f0, f1, f2, f3, f4, f5⟩ := RI.facts
  have dK : decide (K ≤ 0) = true := decide_eq_true hK
  clear hK
  have HRI := Lib.hid RI
  clear RI
  go_enter Tryz.func87, Tryz.ntmps87
  go_upto_region 1 with fail
  rw [← e1, ← eg]
  clear e1 eg
  go_upto_region 2 with fail
  go_quiet (fail)
  obtain ⟨W, eW⟩ : ∃ W, W = w1.drewN nq := ⟨_, rfl⟩
  rw [← eW]
  have hbx : Below w1.heap.size w1 W := by rw [eW]; exact below_drewN (Below.refl _ _) _
  clear eW f0 f1 f2 f3 f4 f5
  have RI := HRI.out.below hbx
  obtain ⟨f0, f1, f2, f3, f4, f5⟩ := RI.facts
  have HRW := Lib.hid RI
  clear RI hbx HRI
  go_upto_region 11 with fail
  repeat (first | go_values | go_skip | (rename_i hX; with_reducible refine WZ.enter hX ?_; clear hX; (try dsimp only [List.append]); with_reducible refine WZ.mk ?_) | go_guarded | go_step | go_upon)
  go_ret
  exact ⟨rfl, HRW.out.hb⟩
set_option maxRecDepth 100000 in
set_option maxHeartbeats 8000000 in
theorem right_zero_4 (n : Int) (nm : ByteArray) (EA : Option Addr) (me ec : Nat) (BA : Option Addr) (mb bc : Nat) (LA : Option Addr) (ml lc : Nat) (w : World) (K : Int) (hK : K ≤ 0) :
    Calls Tryz.prog 87 #[.agg #[.int .u8 4, .int .i64 n, .string nm, .slice EA me ec, .slice BA mb bc, .slice LA ml lc], .int .i64 K] w fun e w' => e = .returned (.bool false) ∧ Below w.heap.size w w' := by
  obtain ⟨w1, e1, RI⟩ := rtIn_new w 4 n nm EA me ec BA mb bc LA ml lc
  obtain ⟨g, eg⟩ : ∃ g, g = w.heap.size := ⟨_, rfl⟩
  rw [← eg] at RI
  obtain ⟨f0, f1, f2, f3, f4, f5⟩ := RI.facts
  have dK : decide (K ≤ 0) = true := decide_eq_true hK
  clear hK
  have HRI := Lib.hid RI
  clear RI
  go_enter Tryz.func87, Tryz.ntmps87
  go_upto_region 1 with fail
  rw [← e1, ← eg]
  clear e1 eg
  go_upto_region 2 with fail
  go_quiet (fail)
  obtain ⟨W, eW⟩ : ∃ W, W = w1.drewN nq := ⟨_, rfl⟩
  rw [← eW]
  have hbx : Below w1.heap.size w1 W := by rw [eW]; exact below_drewN (Below.refl _ _) _
  clear eW f0 f1 f2 f3 f4 f5
  have RI := HRI.out.below hbx
  obtain ⟨f0, f1, f2, f3, f4, f5⟩ := RI.facts
  have HRW := Lib.hid RI
  clear RI hbx HRI
  go_upto_region 11 with fail
  repeat (first | go_values | go_skip | (rename_i hX; with_reducible refine WZ.enter hX ?_; clear hX; (try dsimp only [List.append]); with_reducible refine WZ.mk ?_) | go_guarded | go_step | go_upon)
  go_ret
  exact ⟨rfl, HRW.out.hb⟩
set_option maxRecDepth 100000 in
set_option maxHeartbeats 8000000 in
theorem right_zero_5 (n : Int) (nm : ByteArray) (EA : Option Addr) (me ec : Nat) (BA : Option Addr) (mb bc : Nat) (LA : Option Addr) (ml lc : Nat) (w : World) (K : Int) (hK : K ≤ 0) :
    Calls Tryz.prog 87 #[.agg #[.int .u8 5, .int .i64 n, .string nm, .slice EA me ec, .slice BA mb bc, .slice LA ml lc], .int .i64 K] w fun e w' => e = .returned (.bool false) ∧ Below w.heap.size w w' := by
  obtain ⟨w1, e1, RI⟩ := rtIn_new w 5 n nm EA me ec BA mb bc LA ml lc
  obtain ⟨g, eg⟩ : ∃ g, g = w.heap.size := ⟨_, rfl⟩
  rw [← eg] at RI
  obtain ⟨f0, f1, f2, f3, f4, f5⟩ := RI.facts
  have dK : decide (K ≤ 0) = true := decide_eq_true hK
  clear hK
  have HRI := Lib.hid RI
  clear RI
  go_enter Tryz.func87, Tryz.ntmps87
  go_upto_region 1 with fail
  rw [← e1, ← eg]
  clear e1 eg
  go_upto_region 2 with fail
  go_quiet (fail)
  obtain ⟨W, eW⟩ : ∃ W, W = w1.drewN nq := ⟨_, rfl⟩
  rw [← eW]
  have hbx : Below w1.heap.size w1 W := by rw [eW]; exact below_drewN (Below.refl _ _) _
  clear eW f0 f1 f2 f3 f4 f5
  have RI := HRI.out.below hbx
  obtain ⟨f0, f1, f2, f3, f4, f5⟩ := RI.facts
  have HRW := Lib.hid RI
  clear RI hbx HRI
  go_upto_region 11 with fail
  repeat (first | go_values | go_skip | (rename_i hX; with_reducible refine WZ.enter hX ?_; clear hX; (try dsimp only [List.append]); with_reducible refine WZ.mk ?_) | go_guarded | go_step | go_upon)
  go_ret
  exact ⟨rfl, HRW.out.hb⟩
set_option maxRecDepth 100000 in
set_option maxHeartbeats 8000000 in
theorem right_zero_6 (n : Int) (nm : ByteArray) (EA : Option Addr) (me ec : Nat) (BA : Option Addr) (mb bc : Nat) (LA : Option Addr) (ml lc : Nat) (w : World) (K : Int) (hK : K ≤ 0) :
    Calls Tryz.prog 87 #[.agg #[.int .u8 6, .int .i64 n, .string nm, .slice EA me ec, .slice BA mb bc, .slice LA ml lc], .int .i64 K] w fun e w' => e = .returned (.bool false) ∧ Below w.heap.size w w' := by
  obtain ⟨w1, e1, RI⟩ := rtIn_new w 6 n nm EA me ec BA mb bc LA ml lc
  obtain ⟨g, eg⟩ : ∃ g, g = w.heap.size := ⟨_, rfl⟩
  rw [← eg] at RI
  obtain ⟨f0, f1, f2, f3, f4, f5⟩ := RI.facts
  have dK : decide (K ≤ 0) = true := decide_eq_true hK
  clear hK
  have HRI := Lib.hid RI
  clear RI
  go_enter Tryz.func87, Tryz.ntmps87
  go_upto_region 1 with fail
  rw [← e1, ← eg]
  clear e1 eg
  go_upto_region 2 with fail
  go_quiet (fail)
  obtain ⟨W, eW⟩ : ∃ W, W = w1.drewN nq := ⟨_, rfl⟩
  rw [← eW]
  have hbx : Below w1.heap.size w1 W := by rw [eW]; exact below_drewN (Below.refl _ _) _
  clear eW f0 f1 f2 f3 f4 f5
  have RI := HRI.out.below hbx
  obtain ⟨f0, f1, f2, f3, f4, f5⟩ := RI.facts
  have HRW := Lib.hid RI
  clear RI hbx HRI
  go_upto_region 11 with fail
  repeat (first | go_values | go_skip | (rename_i hX; with_reducible refine WZ.enter hX ?_; clear hX; (try dsimp only [List.append]); with_reducible refine WZ.mk ?_) | go_guarded | go_step | go_upon)
  go_ret
  exact ⟨rfl, HRW.out.hb⟩
set_option maxRecDepth 100000 in
set_option maxHeartbeats 8000000 in
theorem right_zero_7 (n : Int) (nm : ByteArray) (EA : Option Addr) (me ec : Nat) (BA : Option Addr) (mb bc : Nat) (LA : Option Addr) (ml lc : Nat) (w : World) (K : Int) (hK : K ≤ 0) :
    Calls Tryz.prog 87 #[.agg #[.int .u8 7, .int .i64 n, .string nm, .slice EA me ec, .slice BA mb bc, .slice LA ml lc], .int .i64 K] w fun e w' => e = .returned (.bool false) ∧ Below w.heap.size w w' := by
  obtain ⟨w1, e1, RI⟩ := rtIn_new w 7 n nm EA me ec BA mb bc LA ml lc
  obtain ⟨g, eg⟩ : ∃ g, g = w.heap.size := ⟨_, rfl⟩
  rw [← eg] at RI
  obtain ⟨f0, f1, f2, f3, f4, f5⟩ := RI.facts
  have dK : decide (K ≤ 0) = true := decide_eq_true hK
  clear hK
  have HRI := Lib.hid RI
  clear RI
  go_enter Tryz.func87, Tryz.ntmps87
  go_upto_region 1 with fail
  rw [← e1, ← eg]
  clear e1 eg
  go_upto_region 2 with fail
  go_quiet (fail)
  obtain ⟨W, eW⟩ : ∃ W, W = w1.drewN nq := ⟨_, rfl⟩
  rw [← eW]
  have hbx : Below w1.heap.size w1 W := by rw [eW]; exact below_drewN (Below.refl _ _) _
  clear eW f0 f1 f2 f3 f4 f5
  have RI := HRI.out.below hbx
  obtain ⟨f0, f1, f2, f3, f4, f5⟩ := RI.facts
  have HRW := Lib.hid RI
  clear RI hbx HRI
  go_upto_region 11 with fail
  repeat (first | go_values | go_skip | (rename_i hX; with_reducible refine WZ.enter hX ?_; clear hX; (try dsimp only [List.append]); with_reducible refine WZ.mk ?_) | go_guarded | go_step | go_upon)
  go_ret
  exact ⟨rfl, HRW.out.hb⟩
set_option maxRecDepth 100000 in
set_option maxHeartbeats 8000000 in
theorem right_other (n : Int) (nm : ByteArray) (EA : Option Addr) (me ec : Nat) (BA : Option Addr) (mb bc : Nat) (LA : Option Addr) (ml lc : Nat) (w : World) (K : Int) (op : Nat) (ho : op = 0 ∨ 8 ≤ op) :
    Calls Tryz.prog 87 #[.agg #[.int .u8 (op : Nat), .int .i64 n, .string nm, .slice EA me ec, .slice BA mb bc, .slice LA ml lc], .int .i64 K] w fun e w' => e = .returned (.bool false) ∧ Below w.heap.size w w' := by
  obtain ⟨w1, e1, RI⟩ := rtIn_new w (op : Nat) n nm EA me ec BA mb bc LA ml lc
  obtain ⟨g, eg⟩ : ∃ g, g = w.heap.size := ⟨_, rfl⟩
  rw [← eg] at RI
  obtain ⟨f0, f1, f2, f3, f4, f5⟩ := RI.facts
  have q1 : ((op : Int) == 1) = false := by simp; omega
  have q2 : ((op : Int) == 2) = false := by simp; omega
  have q3 : ((op : Int) == 3) = false := by simp; omega
  have q4 : ((op : Int) == 4) = false := by simp; omega
  have q5 : ((op : Int) == 5) = false := by simp; omega
  have q6 : ((op : Int) == 6) = false := by simp; omega
  have q7 : ((op : Int) == 7) = false := by simp; omega
  have p6 : ((op : Int) != 6) = true := by simp; omega
  have p7 : ((op : Int) != 7) = true := by simp; omega
  clear ho
  have HRI := Lib.hid RI
  clear RI
  go_enter Tryz.func87, Tryz.ntmps87
  go_upto_region 1 with fail
  rw [← e1, ← eg]
  clear e1 eg
  go_upto_region 2 with fail
  go_quiet (fail)
  obtain ⟨W, eW⟩ : ∃ W, W = w1.drewN nq := ⟨_, rfl⟩
  rw [← eW]
  have hbx : Below w1.heap.size w1 W := by rw [eW]; exact below_drewN (Below.refl _ _) _
  clear eW f0 f1 f2 f3 f4 f5
  have RI := HRI.out.below hbx
  obtain ⟨f0, f1, f2, f3, f4, f5⟩ := RI.facts
  have HRW := Lib.hid RI
  clear RI hbx HRI
  go_wp2_with fail
  go_ret
  exact ⟨rfl, HRW.out.hb⟩
end
end Go.Proofs.YtocbddajakbemaaGreat
set_option linter.unusedSimpArgs false
namespace Go.Proofs.YtocbddajakbemaaGreat
section
open Go.RowKit
set_option maxRecDepth 100000 in
set_option maxHeartbeats 8000000 in
theorem right_1
    (D : Nat) (n : Int) (nm : ByteArray) (EA : Option Addr) (me ec : Nat) (BA : Option Addr) (mb bc : Nat) (LA : Option Addr) (ml lc : Nat) (w : World) (K : Int) (hK : 0 < K) (hK2 : K ≤ 1000) (QE QB QL R : Bool)
    (CE : ∀ W, Below w.heap.size w W → Calls Tryz.prog 111 #[.slice EA me ec, .func (.func 112) #[] #[]] W fun e w' => e = .returned (.bool (!QE)) ∧ Below W.heap.size W w')
    (AB : ∀ W, Below w.heap.size w W → Calls Tryz.prog 51 #[.slice BA mb bc, .int .i64 (K - 1)] W fun e w' => e = .returned (.bool QB) ∧ Below W.heap.size W w')
    (AL : ∀ W, Below w.heap.size w W → Calls Tryz.prog 51 #[.slice LA ml lc, .int .i64 (K - 1)] W fun e w' => e = .returned (.bool QL) ∧ Below W.heap.size W w')
    (hR : R = (((me == 1) && pnameM nm && (n == 0) && (mb == 0) && (ml == 0)) && (QE && (QB && QL)))) :
    Calls Tryz.prog 87 #[.agg #[.int .u8 1, .int .i64 n, .string nm, .slice EA me ec, .slice BA mb bc, .slice LA ml lc], .int .i64 K] w fun e w' => e = .returned (.bool R) ∧ Below w.heap.size w w' := by
  obtain ⟨w1, e1, RI⟩ := rtIn_new w 1 n nm EA me ec BA mb bc LA ml lc
  obtain ⟨g, eg⟩ : ∃ g, g = w.heap.size := ⟨_, rfl⟩
  rw [← eg] at RI
  obtain ⟨f0, f1, f2, f3, f4, f5⟩ := RI.facts
  have dK : decide (K ≤ 0) = false := decide_eq_false (by omega)
  have uK : wrap64 (K - 1) = K - 1 := by unfold wrap64; omega
  have HR := Lib.hid hR
  have HC := Lib.hid (And.intro CE (And.intro AB AL))
  have HRI := Lib.hid RI
  clear hR CE AB AL RI hK hK2
  go_enter Tryz.func87, Tryz.ntmps87
  go_upto_region 1 with fail
  rw [← e1, ← eg]
  clear e1 eg
  go_upto_region 2 with fail
  go_quiet (fail)
  obtain ⟨W, eW⟩ : ∃ W, W = w1.drewN nq := ⟨_, rfl⟩
  rw [← eW]
  have hbx : Below w1.heap.size w1 W := by rw [eW]; exact below_drewN (Below.refl _ _) _
  clear eW f0 f1 f2 f3 f4 f5
  have RI := HRI.out.below hbx
  obtain ⟨f0, f1, f2, f3, f4, f5⟩ := RI.facts
  have HRW := Lib.hid RI
  clear RI hbx HRI
  have NM := pName_ok nm W
  by_cases t1 : me = 1
  rotate_left
  · have hRF : R = false := by rw [HR.out]; simp [t1]
    have HRF := Lib.hid hRF
    have q1 : ((me : Int) != 1) = true := by simp; omega
    clear hRF t1
    go_upto_region 11 with fail
    repeat (first | go_values | go_skip | (rename_i hX; with_reducible refine WZ.enter hX ?_; clear hX; (try dsimp only [List.append]); with_reducible refine WZ.mk ?_) | go_guarded | (go_at_call 109; refine NM.mono ?_; rintro e w4 ⟨rfl, hb4⟩; have RI4 := HRW.out.below hb4; clear f0 f1 f2 f3 f4 f5; obtain ⟨f0, f1, f2, f3, f4, f5⟩ := RI4.facts; have HR4 := Lib.hid RI4; clear RI4 hb4) | go_step | go_upon)
    go_ret
    exact ⟨by rw [HRF.out]; rfl, HRW.out.hb⟩
  have q1 : ((me : Int) != 1) = false := by rw [t1]; rfl
  obtain ⟨P, eP⟩ : ∃ P, P = pnameM nm := ⟨_, rfl⟩
  rw [← eP] at NM
  rcases P with _ | _
  · have hRF : R = false := by rw [HR.out, ← eP]; simp
    have HRF := Lib.hid hRF
    clear hRF eP t1
    go_upto_region 11 with fail
    repeat (first | go_values | go_skip | (rename_i hX; with_reducible refine WZ.enter hX ?_; clear hX; (try dsimp only [List.append]); with_reducible refine WZ.mk ?_) | go_guarded | (go_at_call 109; refine NM.mono ?_; rintro e w4 ⟨rfl, hb4⟩; have RI4 := HRW.out.below hb4; clear f0 f1 f2 f3 f4 f5; obtain ⟨f0, f1, f2, f3, f4, f5⟩ := RI4.facts; have HR4 := Lib.hid RI4; clear RI4 hb4) | go_step | go_upon)
    go_ret
    exact ⟨by rw [HRF.out]; rfl, HR4.out.hb⟩
  by_cases t3 : n = 0
  rotate_left
  · have hRF : R = false := by rw [HR.out]; simp [t3]
    have HRF := Lib.hid hRF
    have q3 : (n != 0) = true := by simpa using t3
    clear hRF t1 t3 eP
    go_upto_region 11 with fail
    repeat (first | go_values | go_skip | (rename_i hX; with_reducible refine WZ.enter hX ?_; clear hX; (try dsimp only [List.append]); with_reducible refine WZ.mk ?_) | go_guarded | (go_at_call 109; refine NM.mono ?_; rintro e w4 ⟨rfl, hb4⟩; have RI4 := HRW.out.below hb4; clear f0 f1 f2 f3 f4 f5; obtain ⟨f0, f1, f2, f3, f4, f5⟩ := RI4.facts; have HR4 := Lib.hid RI4; clear RI4 hb4) | go_step | go_upon)
    go_ret
    exact ⟨by rw [HRF.out]; rfl, HR4.out.hb⟩
  subst t3
  by_cases t4 : mb = 0
  rotate_left
  · have hRF : R = false := by rw [HR.out]; simp [t4]
    have HRF := Lib.hid hRF
    have q4 : decide ((0 : Int) < (mb : Int)) = true := decide_eq_true (by omega)
    have q4b : decide (0 < mb) = true := decide_eq_true (by omega)
    clear hRF t1 t4 eP
    go_upto_region 11 with fail
    repeat (first | go_values | go_skip | (rename_i hX; with_reducible refine WZ.enter hX ?_; clear hX; (try dsimp only [List.append]); with_reducible refine WZ.mk ?_) | go_guarded | (go_at_call 109; refine NM.mono ?_; rintro e w4 ⟨rfl, hb4⟩; have RI4 := HRW.out.below hb4; clear f0 f1 f2 f3 f4 f5; obtain ⟨f0, f1, f2, f3, f4, f5⟩ := RI4.facts; have HR4 := Lib.hid RI4; clear RI4 hb4) | go_step | go_upon)
    go_ret
    exact ⟨by rw [HRF.out]; rfl, HR4.out.hb⟩
  have q4 : decide ((0 : Int) < (mb : Int)) = false := decide_eq_false (by omega)
  have q4b : decide (0 < mb) = false := decide_eq_false (by omega)
  by_cases t5 : ml = 0
  rotate_left
  · have hRF : R = false := by rw [HR.out]; simp [t5]
    have HRF := Lib.hid hRF
    have q5 : decide ((0 : Int) < (ml : Int)) = true := decide_eq_true (by omega)
    have q5b : decide (0 < ml) = true := decide_eq_true (by omega)
    clear hRF t1 t5 eP t4
    go_upto_region 11 with fail
    repeat (first | go_values | go_skip | (rename_i hX; with_reducible refine WZ.enter hX ?_; clear hX; (try dsimp only [List.append]); with_reducible refine WZ.mk ?_) | go_guarded | (go_at_call 109; refine NM.mono ?_; rintro e w4 ⟨rfl, hb4⟩; have RI4 := HRW.out.below hb4; clear f0 f1 f2 f3 f4 f5; obtain ⟨f0, f1, f2, f3, f4, f5⟩ := RI4.facts; have HR4 := Lib.hid RI4; clear RI4 hb4) | go_step | go_upon)
    go_ret
    exact ⟨by rw [HRF.out]; rfl, HR4.out.hb⟩
  have q5 : decide ((0 : Int) < (ml : Int)) = false := decide_eq_false (by omega)
  have q5b : decide (0 < ml) = false := decide_eq_false (by omega)
  have hRF : R = (QE && (QB && QL)) := by rw [HR.out]; simp [t1, ← eP, t4, t5]
  have HRF := Lib.hid hRF
  clear hRF t1 eP t4 t5
  rcases QE with _ | _
  · go_upto_region 11 with fail
    repeat (first | go_values | go_skip | (rename_i hX; with_reducible refine WZ.enter hX ?_; clear hX; (try dsimp only [List.append]); with_reducible refine WZ.mk ?_) | go_guarded | (go_at_call 109; refine NM.mono ?_; rintro e w4 ⟨rfl, hb4⟩; have RI4 := HRW.out.below hb4; clear f0 f1 f2 f3 f4 f5; obtain ⟨f0, f1, f2, f3, f4, f5⟩ := RI4.facts; have HR4 := Lib.hid RI4; clear RI4 hb4) | (go_at_call 111; refine (HC.out.1 _ HR4.out.hb).mono ?_; rintro e w5 ⟨rfl, hb5⟩; have RI5 := HR4.out.below hb5; clear f0 f1 f2 f3 f4 f5; obtain ⟨f0, f1, f2, f3, f4, f5⟩ := RI5.facts; have HR5 := Lib.hid RI5; clear RI5 hb5) | go_step | go_upon)
    go_ret
    exact ⟨by rw [HRF.out]; rfl, HR5.out.hb⟩
  rcases QB with _ | _
  · go_upto_region 11 with fail
    repeat (first | go_values | go_skip | (rename_i hX; with_reducible refine WZ.enter hX ?_; clear hX; (try dsimp only [List.append]); with_reducible refine WZ.mk ?_) | go_guarded | (go_at_call 109; refine NM.mono ?_; rintro e w4 ⟨rfl, hb4⟩; have RI4 := HRW.out.below hb4; clear f0 f1 f2 f3 f4 f5; obtain ⟨f0, f1, f2, f3, f4, f5⟩ := RI4.facts; have HR4 := Lib.hid RI4; clear RI4 hb4) | (go_at_call 111; refine (HC.out.1 _ HR4.out.hb).mono ?_; rintro e w5 ⟨rfl, hb5⟩; have RI5 := HR4.out.below hb5; clear f0 f1 f2 f3 f4 f5; obtain ⟨f0, f1, f2, f3, f4, f5⟩ := RI5.facts; have HR5 := Lib.hid RI5; clear RI5 hb5) | (go_at_call 51; refine (HC.out.2.1 _ HR5.out.hb).mono ?_; rintro e w6 ⟨rfl, hb6⟩; have RI6 := HR5.out.below hb6; clear f0 f1 f2 f3 f4 f5; obtain ⟨f0, f1, f2, f3, f4, f5⟩ := RI6.facts; have HR6 := Lib.hid RI6; clear RI6 hb6) | go_step | go_upon)
    go_ret
    exact ⟨by rw [HRF.out]; rfl, HR6.out.hb⟩
  go_upto_region 11 with fail
  repeat (first | go_values | go_skip | (rename_i hX; with_reducible refine WZ.enter hX ?_; clear hX; (try dsimp only [List.append]); with_reducible refine WZ.mk ?_) | go_guarded | (go_at_call 109; refine NM.mono ?_; rintro e w4 ⟨rfl, hb4⟩; have RI4 := HRW.out.below hb4; clear f0 f1 f2 f3 f4 f5; obtain ⟨f0, f1, f2, f3, f4, f5⟩ := RI4.facts; have HR4 := Lib.hid RI4; clear RI4 hb4) | (go_at_call 111; refine (HC.out.1 _ HR4.out.hb).mono ?_; rintro e w5 ⟨rfl, hb5⟩; have RI5 := HR4.out.below hb5; clear f0 f1 f2 f3 f4 f5; obtain ⟨f0, f1, f2, f3, f4, f5⟩ := RI5.facts; have HR5 := Lib.hid RI5; clear RI5 hb5) | (go_at_call 51; refine (HC.out.2.2 _ HR6.out.hb).mono ?_; rintro e w7 ⟨rfl, hb7⟩; have HR7 := Lib.hid (HR6.out.below hb7); clear hb7) | (go_at_call 51; refine (HC.out.2.1 _ HR5.out.hb).mono ?_; rintro e w6 ⟨rfl, hb6⟩; have RI6 := HR5.out.below hb6; clear f0 f1 f2 f3 f4 f5; obtain ⟨f0, f1, f2, f3, f4, f5⟩ := RI6.facts; have HR6 := Lib.hid RI6; clear RI6 hb6) | go_step | go_upon)
  go_ret
  exact ⟨by rw [HRF.out]; rfl, HR7.out.hb⟩
end
end Go.Proofs.YtocbddajakbemaaGreat
