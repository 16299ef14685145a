/- What all rows of this seat share: the program's types as the abstract machine's, the world of a witness, from the abstract machine's word to the row's. -/
import Derived.WalkKit
import Derived.ProofKit
import Derived.OpenShut
import Derived.Deep.DeepHandedRow
import Derived.Lib.LaidTab
import Derived.Test.YtiniifbmeobmgaaGreatDoorCards
import Derived.Test.YtiniifbmeobmgaaGreatDoorTie
import Derived.Test.YtiniifbmeobmgaaGreatDoorAbsArgs
import Derived.Test.YtiniifbmeobmgaaGreatDoorAbsExtOk
import Derived.Test.YtiniifbmeobmgaaGreatDoorAbsOk
import Derived.Test.YtiniifbmeobmgaaGreatDoorSpcA
set_option linter.unusedVariables false
set_option linter.unusedSimpArgs false
namespace Go.Proofs.YtiniifbmeobmgaaGreatDoor
open Go Go.Abs Go.ChangeShapes Go.WideShapes Go.ChangeAt Go.RowKit

theorem own : ownKnob Tryz.prog.godebug = none := by kernel_rfl
theorem laidOut : laidOutB Tryz.prog = true := by kernel_rfl

section
variable {H : Type} {encH : TypeId × Value → H} {W : World}

abbrev dBool (b : Bool) (d : DataW H) : Prop := d = .lit (.bool b)
abbrev dStr (s : Str) (d : DataW H) : Prop := d = .lit (.string s)
abbrev dPart (p : Part) (d : DataW H) : Prop := ∃ x y, d = .agg [x, y] ∧ dBool p.1 x ∧ dStr p.2 y
abbrev dBind (p : Bind) (d : DataW H) : Prop := ∃ x y, d = .agg [x, y] ∧ dStr p.1 x ∧ dStr p.2 y

theorem opensPart : Opens encH Tryz.prog W pvPart dPart 82 2 :=
  opens_pair (e0 := PV.bool) (e1 := PV.str) (t0 := 4) (t1 := 9) (s0 := 1) (s1 := 1) Tryz.underlying82 (by kernel_rfl) rfl rfl rfl rfl (opens_bool Tryz.underlying4 (by kernel_rfl)) (opens_str Tryz.underlying9 (by kernel_rfl))
theorem opensBind : Opens encH Tryz.prog W pvBind dBind 63 2 :=
  opens_pair (e0 := PV.str) (e1 := PV.str) (t0 := 9) (t1 := 9) (s0 := 1) (s1 := 1) Tryz.underlying63 (by kernel_rfl) rfl rfl rfl rfl (opens_str Tryz.underlying9 (by kernel_rfl)) (opens_str Tryz.underlying9 (by kernel_rfl))
theorem opensParts : Opens encH Tryz.prog W (encSl pvPart) (datSl dPart) 48 1 := opens_slice Tryz.underlying48 (by kernel_rfl) (by decide) opensPart
theorem opensBinds : Opens encH Tryz.prog W (encSl pvBind) (datSl dBind) 59 1 := opens_slice Tryz.underlying59 (by kernel_rfl) (by decide) opensBind
end

def relay (cs : Array Value) : Obj → Obj
  | .cells _ t frozen => .cells cs t frozen
  | o => o

def rangesLaid : Array Value := ([128, 191, 160, 191, 128, 159, 144, 191, 128, 143, 0, 0, 0, 0, 0, 0, 0, 0, 0, 0, 0, 0, 0, 0, 0, 0, 0, 0, 0, 0, 0, 0].map fun n : Int => Value.int .u8 n).toArray

def firstLaid : Array Value := (Go.Pinned.utf8FirstZ.map fun n : Nat => Value.int .u8 (n : Int)).toArray

/-- A world for a witness: the settled one, the two tables holding what their initialisers lay. -/
noncomputable def laidWorld (os : Os) : World :=
  { World.holding Tryz.prog os ⟨#[], #[], []⟩ with heap := ((World.holding Tryz.prog os ⟨#[], #[], []⟩).heap.modify 1 (relay firstLaid)).modify 2 (relay rangesLaid) }

/-- From the abstract machine's word on a law's call to the model's. -/
theorem law_calls {f : FuncId} {xs : List PV} (h : Ret W f xs [] (.bool true)) {Wd : World} (hsh : Wd.ShapedOpen Tryz.prog) {vs : Array Value} (hl : xs.length = vs.size) (hr : ∀ (i : Nat) (x : PV) (v : Value), xs[i]? = some x → vs[i]? = some v → RelV (Gh.all Wd) x v) :
    Calls Tryz.prog f vs Wd fun e w' => e = .returned (.bool true) ∧ Below Wd.heap.size Wd w' := by
  obtain ⟨m, hm⟩ := Tryz.laysM146.s1_3 Wd hsh
  have hm : Wd.cell? ⟨0, 0, none⟩ = some (.int .i64 m) := hm
  obtain ⟨cs, el, fz, h0, h1⟩ : ∃ (cs : Array Value) (el : TypeId) (fz : Nat × Nat), Wd.heap[0]? = some (.cells cs el fz) ∧ cs[0]? = some (.int .i64 m) := by
    unfold World.cell? at hm
    split at hm
    · rename_i cs el fz hh
      exact ⟨cs, el, fz, hh, by simpa using hm⟩
    · cases hm
  have hpos : 0 < (Base.all Wd).n := by
    have := (Array.getElem?_eq_some_iff.1 h0).1
    exact this
  have key := call_sound namesOk annF annOk (Base.all Wd) (extOk _ hpos ⟨m, cs, el, fz, h0, h1⟩) f xs [] (fun r σ => r = .ret (.bool true)) (h _ rfl) (Gh.all Wd) Wd vs (inv_all Wd) hl hr
  refine key.mono ?_
  rintro e w' ⟨G', σ', r, rfl, hI, hE, hm⟩
  cases e with
  | returned v =>
    have hv : RelV G' (.bool true) v := hm
    rw [hv.bool_inv]
    exact ⟨rfl, ext_below hE⟩
  | _ => exact hm.elim

end Go.Proofs.YtiniifbmeobmgaaGreatDoor
