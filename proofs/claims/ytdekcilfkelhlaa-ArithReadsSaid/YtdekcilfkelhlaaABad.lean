/- What is missing, or what nobody returned. -/
import Derived.Test.YtdekcilfkelhlaaAAwake
set_option linter.unusedVariables false
namespace Go.Proofs.Ytdekcilfkelhlaa
open Go.RowKit

/-- A model that is nil, or that nobody returned. -/
def BadM (w : World) (p : Option Addr) : Prop := p = none ∨ ∃ b, p = some ⟨b, 0, none⟩ ∧ w.heap[b]? = some (.cells #[.slice none 0 0, .int .i64 0] 84 (0, 0))
theorem badM_there (w : World) (p : Option Addr) (h : BadM w p) :
    Calls Try.prog 41 #[.pointer p] w fun e w' => e = .returned (.bool false) ∧ w = w' := by
  rcases h with rfl | ⟨b, rfl, hb⟩
  · go_enter Try.func41, Try.ntmps41
    go_wp2_with fail
    go_ret
    exact ⟨rfl, rfl⟩
  · have c0 := (cell_of_block hb 0).trans rfl
    clear hb
    go_enter Try.func41, Try.ntmps41
    go_wp2_with fail
    go_ret
    exact ⟨rfl, rfl⟩
theorem badM_has (s : Int) (w : World) (p : Option Addr) (h : BadM w p) :
    Calls Try.prog 40 #[.pointer p, .int .i64 s] w fun e w' => e = .returned (.bool false) ∧ w = w' := by
  have H := Lib.hid (badM_there w p h)
  clear h
  go_enter Try.func40, Try.ntmps40
  go_wp2_with fail
  refine H.out.mono ?_
  rintro e w' ⟨rfl, rfl⟩
  go_wp2_with fail
  go_ret
  exact ⟨rfl, rfl⟩
theorem badM_freq (s : Int) (w : World) (p : Option Addr) (h : BadM w p) :
    Calls Try.prog 13 #[.pointer p, .int .i64 s] w fun e w' => e = .returned (.int .i64 0) ∧ w = w' := by
  have H := Lib.hid (badM_has s w p h)
  clear h
  go_enter Try.func13, Try.ntmps13
  go_wp2_with fail
  refine H.out.mono ?_
  rintro e w' ⟨rfl, rfl⟩
  go_wp2_with fail
  go_ret
  exact ⟨rfl, rfl⟩
theorem badM_total (w : World) (p : Option Addr) (h : BadM w p) :
    Calls Try.prog 14 #[.pointer p] w fun e w' => e = .returned (.int .i64 0) ∧ w = w' := by
  have H := Lib.hid (badM_there w p h)
  clear h
  go_enter Try.func14, Try.ntmps14
  go_wp2_with fail
  refine H.out.mono ?_
  rintro e w' ⟨rfl, rfl⟩
  go_wp2_with fail
  go_ret
  exact ⟨rfl, rfl⟩
theorem badM_put (b : Nat) (s : Int) (w : World) (p : Option Addr) (h : BadM w p) :
    Calls Try.prog 15 #[.pointer (some ⟨b, 0, none⟩), .pointer p, .int .i64 s] w fun e w' => e = .returned (.int .i64 1) ∧ w = w' := by
  have H := Lib.hid (badM_there w p h)
  clear h
  go_enter Try.func15, Try.ntmps15
  go_wp2_with fail
  refine H.out.mono ?_
  rintro e w' ⟨rfl, rfl⟩
  go_wp2_with fail
  go_ret
  exact ⟨rfl, rfl⟩
theorem nilE_put (p : Option Addr) (s : Int) (w : World) :
    Calls Try.prog 15 #[.pointer none, .pointer p, .int .i64 s] w fun e w' => e = .returned (.int .i64 1) ∧ w = w' := by
  go_enter Try.func15, Try.ntmps15
  go_wp2_with fail
  go_ret
  exact ⟨rfl, rfl⟩
theorem nilE_putInt (p : Option Addr) (s : Int) (w : World) :
    Calls Try.prog 36 #[.pointer none, .pointer p, .int .i64 s] w fun e w' => e = .returned (.int .i64 1) ∧ w = w' := by
  go_enter Try.func36, Try.ntmps36
  go_wp2_with fail
  go_ret
  exact ⟨rfl, rfl⟩
theorem nilE_bytes (w : World) :
    Calls Try.prog 29 #[.pointer none] w fun e w' => e = .returned (.slice none 0 0) ∧ w = w' := by
  go_enter Try.func29, Try.ntmps29
  go_wp2_with fail
  go_ret
  exact ⟨rfl, rfl⟩
/-- A Number that is nil, or that nobody returned. -/
def BadN (w : World) (p : Option Addr) : Prop := p = none ∨ ∃ b, p = some ⟨b, 0, none⟩ ∧ w.heap[b]? = some (.cells #[.pointer none, .pointer none, .pointer none] 87 (0, 0))
theorem badN_there (w : World) (p : Option Addr) (h : BadN w p) :
    Calls Try.prog 60 #[.pointer p] w fun e w' => e = .returned (.bool false) ∧ w = w' := by
  rcases h with rfl | ⟨b, rfl, hb⟩
  · go_enter Try.func60, Try.ntmps60
    go_wp2_with fail
    go_ret
    exact ⟨rfl, rfl⟩
  · have c0 := (cell_of_block hb 0).trans rfl
    clear hb
    have H := Lib.hid (badM_there w none (Or.inl rfl))
    go_enter Try.func60, Try.ntmps60
    go_wp2_with fail
    refine H.out.mono ?_
    rintro e w' ⟨rfl, rfl⟩
    go_wp2_with fail
    go_ret
    exact ⟨rfl, rfl⟩
theorem badN_putInt (b : Nat) (s : Int) (w : World) (p : Option Addr) (h : BadN w p) :
    Calls Try.prog 36 #[.pointer (some ⟨b, 0, none⟩), .pointer p, .int .i64 s] w fun e w' => e = .returned (.int .i64 1) ∧ w = w' := by
  have H := Lib.hid (badN_there w p h)
  clear h
  go_enter Try.func36, Try.ntmps36
  go_wp2_with fail
  refine H.out.mono ?_
  rintro e w' ⟨rfl, rfl⟩
  go_wp2_with fail
  go_ret
  exact ⟨rfl, rfl⟩
/-- A Decoder that is nil, or that nobody returned. -/
def BadD (w : World) (p : Option Addr) : Prop := p = none ∨ ∃ b, p = some ⟨b, 0, none⟩ ∧ w.cell? ⟨b, 9, none⟩ = some (.bool false)
theorem badD_there (w : World) (p : Option Addr) (h : BadD w p) :
    Calls Try.prog 54 #[.pointer p] w fun e w' => e = .returned (.bool false) ∧ w = w' := by
  rcases h with rfl | ⟨b, rfl, hb⟩
  · go_enter Try.func54, Try.ntmps54
    go_wp2_with fail
    go_ret
    exact ⟨rfl, rfl⟩
  · go_enter Try.func54, Try.ntmps54
    go_wp2_with fail
    go_ret
    exact ⟨rfl, rfl⟩
theorem badD_get (w : World) (p m : Option Addr) (h : BadD w p) :
    Calls Try.prog 38 #[.pointer p, .pointer m] w fun e w' => e = .returned (.tuple #[.int .i64 0, .int .i64 1]) ∧ w = w' := by
  have H := Lib.hid (badD_there w p h)
  clear h
  go_enter Try.func38, Try.ntmps38
  go_wp2_with fail
  refine H.out.mono ?_
  rintro e w' ⟨rfl, rfl⟩
  go_wp2_with fail
  go_ret2
  exact ⟨rfl, rfl⟩
theorem badD_getInt (w : World) (p m : Option Addr) (h : BadD w p) :
    Calls Try.prog 37 #[.pointer p, .pointer m] w fun e w' => e = .returned (.tuple #[.int .i64 0, .int .i64 1]) ∧ w = w' := by
  have H := Lib.hid (badD_there w p h)
  clear h
  go_enter Try.func37, Try.ntmps37
  go_wp2_with fail
  refine H.out.mono ?_
  rintro e w' ⟨rfl, rfl⟩
  go_wp2_with fail
  go_ret2
  exact ⟨rfl, rfl⟩
theorem badD_end (w : World) (p : Option Addr) (h : BadD w p) :
    Calls Try.prog 26 #[.pointer p] w fun e w' => e = .returned (.int .i64 1) ∧ w = w' := by
  have H := Lib.hid (badD_there w p h)
  clear h
  go_enter Try.func26, Try.ntmps26
  go_wp2_with fail
  refine H.out.mono ?_
  rintro e w' ⟨rfl, rfl⟩
  go_wp2_with fail
  go_ret
  exact ⟨rfl, rfl⟩
/-- A Decoder that was made, and a model or Number that is none. -/
theorem badM_get {X : Box} {F : List Nat} {s : St} {sh : Nat} (w : World) (p : Option Addr) (hd : COk X w F s sh) (h9 : X.x9 = some (.bool true)) (h : BadM w p) :
    Calls Try.prog 38 #[.pointer (some ⟨X.bw, 0, none⟩), .pointer p] w fun e w' => e = .returned (.tuple #[.int .i64 0, .int .i64 1]) ∧ w = w' := by
  have H := Lib.hid (And.intro (End_there w hd h9) (badM_there w p h))
  clear h hd h9
  go_enter Try.func38, Try.ntmps38
  go_wp2_with fail
  refine H.out.1.mono ?_
  rintro e w' ⟨rfl, rfl⟩
  go_wp2_with fail
  refine H.out.2.mono ?_
  rintro e w' ⟨rfl, rfl⟩
  go_wp2_with fail
  go_ret2
  exact ⟨rfl, rfl⟩
theorem badN_getInt {X : Box} {F : List Nat} {s : St} {sh : Nat} (w : World) (p : Option Addr) (hd : COk X w F s sh) (h9 : X.x9 = some (.bool true)) (h : BadN w p) :
    Calls Try.prog 37 #[.pointer (some ⟨X.bw, 0, none⟩), .pointer p] w fun e w' => e = .returned (.tuple #[.int .i64 0, .int .i64 1]) ∧ w = w' := by
  have H := Lib.hid (And.intro (End_there w hd h9) (badN_there w p h))
  clear h hd h9
  go_enter Try.func37, Try.ntmps37
  go_wp2_with fail
  refine H.out.1.mono ?_
  rintro e w' ⟨rfl, rfl⟩
  go_wp2_with fail
  refine H.out.2.mono ?_
  rintro e w' ⟨rfl, rfl⟩
  go_wp2_with fail
  go_ret2
  exact ⟨rfl, rfl⟩
theorem NewModel_arg (n : Int) (w : World) (h : n < 1 ∨ 256 < n) :
    Calls Try.prog 12 #[.int .i64 n] w fun e w' => e = .returned (.tuple #[.pointer none, .int .i64 2]) ∧ w = w' := by
  rcases h with h | h
  · go_enter Try.func12, Try.ntmps12
    go_wp2_with fail
    go_ret2
    exact ⟨rfl, rfl⟩
  · have h1 : 1 ≤ n := by omega
    go_enter Try.func12, Try.ntmps12
    go_wp2_with fail
    go_ret2
    exact ⟨rfl, rfl⟩
end Go.Proofs.Ytdekcilfkelhlaa
