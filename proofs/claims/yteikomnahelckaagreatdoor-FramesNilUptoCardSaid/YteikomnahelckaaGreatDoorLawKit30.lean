import Derived.Test.YteikomnahelckaaGreatDoorAbsTabE
set_option linter.unusedVariables false
set_option linter.unusedSimpArgs false
namespace Go.Proofs.YteikomnahelckaaGreatDoor
open Go Go.Abs Go.RowKit
theorem law_calls {f : FuncId} {xs : List PV} (h : callW Tryz.prog annF f xs [] (fun r σ => r = .ret (.bool true))) {Wd : World} (hsh : Wd.ShapedOpen Tryz.prog) (hL : laidMet Tryz.prog laidAll Wd) {vs : Array Value} (hl : xs.length = vs.size)
  (hr : ∀ (i : Nat) (x : PV) (v : Value),xs[i]? = some x → vs[i]? = some v → RelV (Gh.all Wd) x v) :
  Calls Tryz.prog f vs Wd fun e w' => e = .returned (.bool true) ∧ Below Wd.heap.size Wd w' := by
 have key := call_sound namesOk annF annOk (Base.all Wd (globs hL)) (extF_ok _ (facts hsh hL)) f xs [] _ h (Gh.all Wd) Wd vs (inv_all Wd _) hl hr
 refine key.mono ?_
 rintro e w' ⟨G',σ',r,rfl,hI,hE,hm⟩
 cases e with
 | returned v =>
  have hv : RelV G' (.bool true) v := hm
  rw [hv.bool_inv]
  exact ⟨rfl,ext_below hI hE⟩
 | _ => exact hm.elim
end Go.Proofs.YteikomnahelckaaGreatDoor
