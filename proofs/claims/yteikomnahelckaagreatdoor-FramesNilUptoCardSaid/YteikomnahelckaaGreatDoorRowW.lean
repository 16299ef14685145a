import Derived.Deep.DeepWitnessRowRef
import Derived.Deep.DeepLaidRun
import Derived.Lib.LaidU8
import Derived.Test.YteikomnahelckaaGreatDoorRowKit30
set_option linter.unusedVariables false
set_option linter.unusedSimpArgs false
namespace Go.Proofs.YteikomnahelckaaGreatDoor
open Go Go.Abs Go.ChangeShapes Go.WideShapes Go.ChangeAt Go.RowKit
mutual
def flatD : DataW Unit → List Value
 | .lit (.int k n) => [.int k n]
 | .lit (.string s) => [.string ⟨⟨s⟩⟩]
 | .agg l => flatDs l
 | _ => []
def flatDs : List (DataW Unit) → List Value
 | [] => []
 | x :: l => flatD x ++ flatDs l
end
noncomputable def laidWorld (os : Os) : World :=
 let N := (World.settled Tryz.prog os).heap.size
 let w0 := World.holding Tryz.prog os ⟨#[.cells (Lib.whiteT.map fun (z : Nat) => Value.int .u16 (z : Int)).toArray 312,.cells #[.slice (some ⟨N,0,none⟩) 7 7,.slice none 0 0,.int .i64 2] 310],#[],[]⟩
 let put (h : Array Obj) (g : Nat) (cs : Array Value) : Array Obj := h.modify g fun
  | .cells _ t frozen => .cells cs t frozen
  | o => o
 let h0 := put w0.heap 0 (flatD Rows.laid_environ_frames_kinds).toArray
 let h1 := put h0 1 (flatD Rows.laid_environ_stand_lengths).toArray
 let h2 := put h1 2 (flatD Rows.laid_strings_asciiSpace).toArray
 let h3 := put h2 3 #[.pointer (some ⟨N + 1,0,none⟩)]
 let h4 := put h3 4 (flatD Rows.laid_internal_strconv_uint64pow10).toArray
 let h5 := put h4 6 (flatD Rows.laid_unicode_utf8_first).toArray
 let h6 := put h5 7 (flatD Rows.laid_unicode_utf8_acceptRanges).toArray
 let h7 := put h6 8 (flatD Rows.laid_math_bits_deBruijn32tab).toArray
 let h8 := put h7 9 (flatD Rows.laid_math_bits_deBruijn64tab).toArray
 {w0 with heap := h8 }
theorem laid_met (os : Os) (args : Array Value) : laidMet Tryz.prog laidAll ((laidWorld os).forCall (fun _ _ => 0) ⟨#[],args,[]⟩).memory :=
 laidMet_of_run3 8 (by kernel_rfl) (by kernel_rfl) (by kernel_rfl)
end Go.Proofs.YteikomnahelckaaGreatDoor
