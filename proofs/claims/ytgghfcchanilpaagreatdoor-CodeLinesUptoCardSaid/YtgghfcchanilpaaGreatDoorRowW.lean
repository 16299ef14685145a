/- A world for the witness of this seat's rows: the settled one, the variables holding what their initialisers lay. -/
import Derived.Deep.DeepWitnessRowRef
import Derived.Deep.DeepLaidRun
import Derived.Lib.LaidU8
import Derived.Test.YtgghfcchanilpaaGreatDoorRowKit31
set_option linter.unusedVariables false
set_option linter.unusedSimpArgs false
namespace Go.Proofs.YtgghfcchanilpaaGreatDoor
open Go Go.Abs Go.ChangeShapes Go.WideShapes Go.ChangeAt Go.RowKit

mutual
/-- The cells of what is laid. -/
def flatD : DataW Unit → List Value
  | .lit (.int k n) => [.int k n]
  | .lit (.string s) => [.string ⟨⟨s⟩⟩]
  | .agg l => flatDs l
  | _ => []
def flatDs : List (DataW Unit) → List Value
  | [] => []
  | x :: l => flatD x ++ flatDs l
end

noncomputable def laidWorld (os : Os) : World :=
  let N := (World.settled Tryz.prog os).heap.size
  let w0 := World.holding Tryz.prog os ⟨#[.cells (Lib.whiteT.map fun (z : Nat) => Value.int .u16 (z : Int)).toArray 363, .cells #[.slice (some ⟨N, 0, none⟩) 7 7, .slice none 0 0, .int .i64 2] 361,
    .cells #[.string ⟨⟨[105, 110, 118, 97, 108, 105, 100, 32, 115, 121, 110, 116, 97, 120]⟩⟩] 357, .cells #[.string ⟨⟨[118, 97, 108, 117, 101, 32, 111, 117, 116, 32, 111, 102, 32, 114, 97, 110, 103, 101]⟩⟩] 357], #[], []⟩
  let put (h : Array Obj) (g : Nat) (cs : Array Value) : Array Obj := h.modify g fun
    | .cells _ t frozen => .cells cs t frozen
    | o => o
  let h0 := put w0.heap 0 (flatD Rows.laid_environ_code_ops).toArray
  let h1 := put h0 1 (flatD Rows.laid_environ_stand_lengths).toArray
  let h2 := put h1 2 (flatD Rows.laid_strings_asciiSpace).toArray
  let h3 := put h2 3 (flatD Rows.laid_internal_strconv_uint64pow10).toArray
  let h4 := put h3 4 #[.iface 355 (.pointer (some ⟨N + 2, 0, none⟩))]
  let h5 := put h4 5 #[.iface 355 (.pointer (some ⟨N + 3, 0, none⟩))]
  let h6 := put h5 6 #[.pointer (some ⟨N + 1, 0, none⟩)]
  let h7 := put h6 8 (flatD Rows.laid_math_bits_deBruijn32tab).toArray
  let h8 := put h7 9 (flatD Rows.laid_math_bits_deBruijn64tab).toArray
  let h9 := put h8 10 (flatD Rows.laid_unicode_utf8_first).toArray
  let h10 := put h9 11 (flatD Rows.laid_unicode_utf8_acceptRanges).toArray
  { w0 with heap := h10 }

theorem laid_met (os : Os) (args : Array Value) : laidMet Tryz.prog laidAll ((laidWorld os).forCall (fun _ _ => 0) ⟨#[], args, []⟩).memory :=
  laidMet_of_run3 8 (by kernel_rfl) (by kernel_rfl) (by kernel_rfl)

end Go.Proofs.YtgghfcchanilpaaGreatDoor
