/- Items that came in. -/
import Derived.Test.YtpnlcnilhlcfpaaOpen
import Derived.Test.YtpnlcnilhlcfpaaBReads
set_option linter.unusedVariables false
namespace Go.Proofs.Ytpnlcnilhlcfpaa
open Go.RowKit

theorem cell_lt {w : World} {a : Addr} {v : Value} (h : w.cell? a = some v) : a.block < w.heap.size := World.block_lt_of_cell? w a h
theorem IsRecs.items {w : World} {a : Option Addr} {len cap : Nat} {z : Nat → Nat → Int} (h : IsRecs [.u8, .u64, .i64] w a len cap z) :
    ∃ t : Its, Items w w.heap.size a len t ∧ len ≤ cap ∧ cap ≤ 9223372036854775807 ∧ (a = none → len = 0 ∧ cap = 0) := by
  rcases h with ⟨rfl, rfl, rfl⟩ | ⟨x, rfl, h1, h2, h3⟩
  · exact ⟨⟨fun _ => 0, fun _ => 0, fun _ => 0⟩, fun i hi => by omega, by omega, by omega, fun _ => ⟨rfl, rfl⟩⟩
  · refine ⟨⟨fun i => (z i 0).toNat, fun i => (z i 1).toNat, fun i => z i 2⟩, ?_, h1, by simpa [maxLen] using h2, fun e => by cases e⟩
    intro i hi
    obtain ⟨c0, w0⟩ := h3 i 0 .u8 hi rfl
    obtain ⟨c1, w1⟩ := h3 i 1 .u64 hi rfl
    obtain ⟨c2, w2⟩ := h3 i 2 .i64 hi rfl
    have b0 := bounds_u8 w0
    have b1 := bounds_u64 w1
    have b2 := bounds_i64 w2
    have hb : (x.add (i * 3)).block = x.block := by unfold Addr.add; split <;> rfl
    have hlt := cell_lt c0
    rw [show [IntKind.u8, IntKind.u64, IntKind.i64].length = 3 from rfl, Nat.add_zero] at c0 hlt
    rw [hb] at hlt
    refine ⟨x, rfl, hlt, ?_, ?_, c2, ?_, ?_, b2.1, b2.2⟩
    · show _ = some (Value.int .u8 ((z i 0).toNat : Int)); rw [Int.toNat_of_nonneg b0.1]; exact c0
    · show _ = some (Value.int .u64 ((z i 1).toNat : Int)); rw [Int.toNat_of_nonneg b1.1]; exact c1
    · show (z i 0).toNat < 256; omega
    · show (z i 1).toNat < 18446744073709551616; omega
end Go.Proofs.Ytpnlcnilhlcfpaa
