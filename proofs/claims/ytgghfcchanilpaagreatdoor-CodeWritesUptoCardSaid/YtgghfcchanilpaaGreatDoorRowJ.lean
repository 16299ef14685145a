import Derived.Test.YtgghfcchanilpaaGreatDoorAbsTabE
import Derived.Deep.DeepWitnessRowRef
import Derived.Deep.DeepLaidRun
import Derived.Lib.LaidU8
import Derived.Test.YtgghfcchanilpaaGreatDoorRowKit31
import Derived.JoinedOf
set_option linter.unusedVariables false
set_option linter.unusedSimpArgs false
namespace Go.Proofs.YtgghfcchanilpaaGreatDoor
open Go Go.Abs Go.RowKit
theorem law_calls {f : FuncId} {xs : List PV} (h : callW Tryz.prog annF f xs [] (fun r σ => r = .ret (.bool true))) {Wd : World} (hsh : Wd.ShapedOpen Tryz.prog) (hL : laidMet Tryz.prog laidAll Wd) {vs : Array Value} (hl : xs.length = vs.size)
  (hr : ∀ (i : Nat) (x : PV) (v : Value),xs[i]? = some x → vs[i]? = some v → RelV (Gh.all Wd) x v) :
  Calls Tryz.prog f vs Wd fun e w' => e = .returned (.bool true) ∧ Below Wd.heap.size Wd w' := by
 have key := call_sound namesOk annF annOk (Base.all Wd (globs hL)) (extF_ok _ (facts hsh hL)) f xs [] _ h (Gh.all Wd) Wd vs (inv_all Wd _) hl hr
 refine key.mono ?_
 rintro e w' ⟨G',σ',r,rfl,hI,hE,hm⟩
 cases e with
 | returned v =>
  have hv : RelV G' (.bool true) v := hm
  rw [hv.bool_inv]
  exact ⟨rfl,ext_below hI hE⟩
 | _ => exact hm.elim
end Go.Proofs.YtgghfcchanilpaaGreatDoor
namespace Go.Proofs.YtgghfcchanilpaaGreatDoor
open Go Go.Abs Go.ChangeShapes Go.WideShapes Go.ChangeAt Go.RowKit
mutual
def flatD : DataW Unit → List Value
 | .lit (.int k n) => [.int k n]
 | .lit (.string s) => [.string ⟨⟨s⟩⟩]
 | .agg l => flatDs l
 | _ => []
def flatDs : List (DataW Unit) → List Value
 | [] => []
 | x :: l => flatD x ++ flatDs l
end
noncomputable def laidWorld (os : Os) : World :=
 let N := (World.settled Tryz.prog os).heap.size
 let w0 := World.holding Tryz.prog os ⟨#[.cells (Lib.whiteT.map fun (z : Nat) => Value.int .u16 (z : Int)).toArray 363,.cells #[.slice (some ⟨N,0,none⟩) 7 7,.slice none 0 0,.int .i64 2] 361,
  .cells #[.string ⟨⟨[105,110,118,97,108,105,100,32,115,121,110,116,97,120]⟩⟩] 357,.cells #[.string ⟨⟨[118,97,108,117,101,32,111,117,116,32,111,102,32,114,97,110,103,101]⟩⟩] 357],#[],[]⟩
 let put (h : Array Obj) (g : Nat) (cs : Array Value) : Array Obj := h.modify g fun
  | .cells _ t frozen => .cells cs t frozen
  | o => o
 let h0 := put w0.heap 0 (flatD Rows.laid_environ_code_ops).toArray
 let h1 := put h0 1 (flatD Rows.laid_environ_stand_lengths).toArray
 let h2 := put h1 2 (flatD Rows.laid_strings_asciiSpace).toArray
 let h3 := put h2 3 (flatD Rows.laid_internal_strconv_uint64pow10).toArray
 let h4 := put h3 4 #[.iface 355 (.pointer (some ⟨N + 2,0,none⟩))]
 let h5 := put h4 5 #[.iface 355 (.pointer (some ⟨N + 3,0,none⟩))]
 let h6 := put h5 6 #[.pointer (some ⟨N + 1,0,none⟩)]
 let h7 := put h6 8 (flatD Rows.laid_math_bits_deBruijn32tab).toArray
 let h8 := put h7 9 (flatD Rows.laid_math_bits_deBruijn64tab).toArray
 let h9 := put h8 10 (flatD Rows.laid_unicode_utf8_first).toArray
 let h10 := put h9 11 (flatD Rows.laid_unicode_utf8_acceptRanges).toArray
 {w0 with heap := h10 }
theorem laid_met (os : Os) (args : Array Value) : laidMet Tryz.prog laidAll ((laidWorld os).forCall (fun _ _ => 0) ⟨#[],args,[]⟩).memory :=
 laidMet_of_run3 8 (by kernel_rfl) (by kernel_rfl) (by kernel_rfl)
end Go.Proofs.YtgghfcchanilpaaGreatDoor
namespace Go.Abs
open Go
theorem aand {a b : Bool} (h : a = true) (k : b = true) : (a && b) = true := by rw [h,k]; rfl
theorem joined_of {P : Program} {f : FuncId} {fn : Func} {s : ChangeSpec} {c : OpenClaim}
  (k1 : (c.wf (OpenSpec.ofChange s)) = true)
  (k2 : (laidOutB P) = true)
  (k3 : (mapsRowed P) = true)
  (k4 : (fn.params.all (P.readableRec ·)) = true)
  (k5 : (namedTie P c.named s.vars) = true)
  (k6 : ((c.stops == [])) = true)
  (k7 : ((P.stops == [])) = true)
  (k8 : ((c.knobs == [])) = true)
  (k9 : ((P.stopKnobs == [])) = true)
  (k10 : ((c.inPlace == P.inPlace f)) = true)
  (k11 : ((c.unfollowed == P.unfollowed f)) = true)
  (k12 : ((c.recurses == P.recurses f)) = true)
  (k13 : ((c.named == P.varsNamed f)) = true)
  (k14 : ((c.maps == (fn.params.toList ++ s.plain.varTypes P).any (P.mapsRec ·))) = true)
  (k15 : ((c.ifaces == (fn.params.toList ++ s.plain.varTypes P).any (P.ifacesRec ·))) = true)
  (k16 : ((c.mapsOut == P.mapsAmong fn.resultTypes.toList)) = true)
  (k17 : ((c.loops == (fn.params.toList ++ s.plain.varTypes P).any (P.loopsFrom ·))) = true)
  (k18 : ((c.wideKeys == (fn.params.toList ++ s.plain.varTypes P ++ fn.resultTypes.toList).any (P.wideKeysFrom ·))) = true)
  (k19 : (s.vars.all (P.varReadable ·)) = true)
  (k20 : (fn.resultTypes.all (fun t => P.readableRec t && decide (t < P.types.size))) = true)
  (k21 : ((c.ifacesOut == fn.resultTypes.toList.any (P.ifacesRec ·))) = true)
  (k22 : ((c.loopsOut == fn.resultTypes.toList.any (P.loopsFrom ·))) = true)
  (k23 : ((c.plainKeys == P.plainKeys)) = true)
  (k24 : (c.shortTexts.isNone) = true)
  (k25 : (P.stopsHeard) = true)
  (k26 : (P.mayEnter) = true)
  (k27 : ((c.lifted == P.liftsFinal)) = true)
  (k28 : ((P.make == some c.make)) = true)
  (k29 : ((c.kinds == (if c.domain.isEmpty then [] else fn.params.toList.map fun t => match P.underlying t with | some (.int k) => some k | _ => none))) = true)
  (k30 : ((c.pinned == c.pinnedBy)) = true)
  (k31 : ((c.veiled == (fn.params.toList ++ s.plain.varTypes P ++ fn.resultTypes.toList).any (P.veiledRec ·))) = true)
  (k32 : (c.veiledFits P fn.params.toList (fn.params.toList ++ s.plain.varTypes P ++ fn.resultTypes.toList)) = true)
  : joinedFacts P f fn s c = true := by
 unfold joinedFacts
 exact aand (aand (aand (aand (aand (aand (aand (aand (aand (aand (aand (aand (aand (aand (aand (aand (aand (aand (aand (aand (aand (aand (aand (aand (aand (aand (aand (aand (aand (aand (aand (k1) k2) k3) k4) k5) k6) k7) k8) k9) k10) k11) k12) k13) k14) k15) k16) k17) k18) k19) k20) k21) k22) k23) k24) k25) k26) k27) k28) k29) k30) k31) k32
end Go.Abs
namespace Go.Proofs.YtgghfcchanilpaaGreatDoor
open Go Go.Abs Go.RowKit
theorem jj3 : (mapsRowed Tryz.prog) = true := by kernel_rfl
theorem jj6 : ((Rows.codeNamesUptoRow.stops == [])) = true := by kernel_rfl
theorem jj7 : ((Tryz.prog.stops == [])) = true := by kernel_rfl
theorem jj8 : ((Rows.codeNamesUptoRow.knobs == [])) = true := by kernel_rfl
theorem jj9 : ((Tryz.prog.stopKnobs == [])) = true := by kernel_rfl
theorem jj23 : ((Rows.codeNamesUptoRow.plainKeys == Tryz.prog.plainKeys)) = true := by kernel_rfl
theorem jj24 : (Rows.codeNamesUptoRow.shortTexts.isNone) = true := by kernel_rfl
theorem jj25 : (Tryz.prog.stopsHeard) = true := by kernel_rfl
theorem jj26 : (Tryz.prog.mayEnter) = true := by kernel_rfl
theorem jj27 : ((Rows.codeNamesUptoRow.lifted == Tryz.prog.liftsFinal)) = true := by kernel_rfl
theorem jj28 : ((Tryz.prog.make == some Rows.codeNamesUptoRow.make)) = true := by kernel_rfl
end Go.Proofs.YtgghfcchanilpaaGreatDoor
