/- Sums and differences of small numbers. -/
import Derived.Test.YtiniifbmeobmgaaGreatDoorAbsZ
set_option linter.unusedVariables false
set_option linter.unusedSimpArgs false
namespace Go.Proofs.YtiniifbmeobmgaaGreatDoor
open Go Go.Abs

theorem add_nat {a b : Nat} (h : a + b < 9223372036854775808) : vBin none .add (.int .i64 (a : Nat)) (.int .i64 (b : Nat)) = some (.int .i64 ((a + b : Nat) : Int)) := by
  rw [vBin_add _ (by omega) (by omega), Int.natCast_add]
theorem add_one {a : Nat} (h : a + 1 < 9223372036854775808) : vBin none .add (.int .i64 (a : Nat)) (.int .i64 1) = some (.int .i64 ((a + 1 : Nat) : Int)) := add_nat (b := 1) h
theorem sub_nat {a b : Nat} (hb : b ≤ a) (h : a < 9223372036854775808) : vBin none .sub (.int .i64 (a : Nat)) (.int .i64 (b : Nat)) = some (.int .i64 ((a - b : Nat) : Int)) := by
  rw [vBin_sub _ (by omega) (by omega)]
  congr 2
  omega
end Go.Proofs.YtiniifbmeobmgaaGreatDoor
