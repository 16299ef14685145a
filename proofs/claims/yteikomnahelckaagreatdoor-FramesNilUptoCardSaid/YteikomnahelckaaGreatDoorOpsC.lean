import Derived.Test.YteikomnahelckaaGreatDoorRowKit30
import Derived.Test.YteikomnahelckaaGreatDoorOpsG
import Derived.Test.YteikomnahelckaaGreatDoorPlM
set_option linter.unusedVariables false
set_option linter.unusedSimpArgs false
namespace Go.Proofs.YteikomnahelckaaGreatDoor
open Go Go.Abs Go.ChangeShapes Go.WideShapes Go.ChangeAt Go.RowKit
section
variable {H : Type} {encH : TypeId × Value → H} {W : World}
abbrev dBool (b : Bool) (d : DataW H) : Prop := d = .lit (.bool b)
abbrev dInt (n : Int) (d : DataW H) : Prop := d = .lit (.int .i64 n) ∧ (Lit.int .i64 n).wf = true
theorem oBool : Opens encH Tryz.prog W PV.bool dBool 4 1 := opens_bool Tryz.underlying4 (by kernel_rfl)
theorem oInt : Opens encH Tryz.prog W (PV.int .i64) dInt 3 1 := opens_int Tryz.underlying3 (by kernel_rfl)
theorem dat_iff {α : Type} {enc : α → PV} {dat dat' : α → DataW H → Prop} {t sz : Nat} (O : Opens encH Tryz.prog W enc dat t sz) (h : ∀ a d,dat a d → dat' a d) : Opens encH Tryz.prog W enc dat' t sz where
 cells := O.cells
 sized := O.sized
 open_ := by
  intro fuel cs x hl hx
  obtain ⟨a,v,h1,h2,h3,h4⟩ := O.open_ fuel cs x hl hx
  exact ⟨a,v,h1,h2,h3,h _ _ h4⟩
abbrev dSlot (s : SlotS) (d : DataW H) : Prop := ∃ a b c e f,d = .agg [a,b,c,e,f] ∧ dInt s.kind a ∧ dInt s.size b ∧ dInt s.map c ∧ dInt s.dims e ∧ dBool s.flex f
theorem oSlot : Opens encH Tryz.prog W pvSlot dSlot 71 5 :=
 dat_iff (Opens'.iso (opens_struct Tryz.underlying71 (by kernel_rfl) (fields_cons rfl rfl oInt (fields_cons rfl rfl oInt (fields_cons rfl rfl oInt (fields_cons rfl rfl oInt (fields_cons rfl rfl oBool fields_nil))))))
  (fun p => SlotS.mk p.1 p.2.1 p.2.2.1 p.2.2.2.1 p.2.2.2.2.1) (fun s => (s.kind,s.size,s.map,s.dims,s.flex,())) (fun _ => rfl) (fun _ => rfl)) (by
   rintro a d ⟨ds,rfl,x,ds1,rfl,hx,y,ds2,rfl,hy,z,ds3,rfl,hz,u,ds4,rfl,hu,v,ds5,rfl,hv,rfl⟩
   exact ⟨_,_,_,_,_,rfl,hx,hy,hz,hu,hv⟩)
theorem oSlots : Opens encH Tryz.prog W (pvSl pvSlot) (datSl dSlot) 29 1 := opens_slice Tryz.underlying29 (by kernel_rfl) (by decide) oSlot
end
end Go.Proofs.YteikomnahelckaaGreatDoor
