/- Numbers, texts and instructions as arguments of this seat's rows. -/
import Derived.Test.YtgghfcchanilpaaGreatDoorRowKit31
import Derived.Test.YtgghfcchanilpaaGreatDoorOpsG
import Derived.Test.YtgghfcchanilpaaGreatDoorPlB
set_option linter.unusedVariables false
set_option linter.unusedSimpArgs false
namespace Go.Proofs.YtgghfcchanilpaaGreatDoor
open Go Go.Abs Go.ChangeShapes Go.WideShapes Go.ChangeAt Go.RowKit

section
variable {H : Type} {encH : TypeId × Value → H} {W : World}

abbrev dInt (n : Int) (d : DataW H) : Prop := d = .lit (.int .i64 n) ∧ (Lit.int .i64 n).wf = true

theorem oInt : Opens encH Tryz.prog W (PV.int .i64) dInt 3 1 := opens_int Tryz.underlying3 (by kernel_rfl)
theorem oInt2 : Opens encH Tryz.prog W (PV.int .i64) dInt 2 1 := opens_int Tryz.underlying2 (by kernel_rfl)
theorem dInt_in {n : Int} {d : DataW H} (h : dInt n d) : inI64 n = true := by
  have h2 := h.2
  have e : (Lit.int .i64 n).wf = (decide (-9223372036854775808 ≤ n) && decide (n ≤ 9223372036854775807)) := rfl
  rw [e] at h2
  exact h2

abbrev dOper (o : OperS) (d : DataW H) : Prop := ∃ x y z, d = .agg [x, y, z] ∧ dInt o.k x ∧ dInt o.a y ∧ dInt o.b z

theorem dat_iff {α : Type} {enc : α → PV} {dat dat' : α → DataW H → Prop} {t sz : Nat} (O : Opens encH Tryz.prog W enc dat t sz) (h : ∀ a d, dat a d → dat' a d) : Opens encH Tryz.prog W enc dat' t sz where
  cells := O.cells
  sized := O.sized
  open_ := by
    intro fuel cs x hl hx
    obtain ⟨a, v, h1, h2, h3, h4⟩ := O.open_ fuel cs x hl hx
    exact ⟨a, v, h1, h2, h3, h _ _ h4⟩

theorem oOper : Opens encH Tryz.prog W pvOper dOper 28 3 :=
  dat_iff (Opens'.iso (opens_struct Tryz.underlying28 (by kernel_rfl) (fields_cons rfl rfl oInt (fields_cons rfl rfl oInt (fields_cons rfl rfl oInt fields_nil))))
    (fun p => OperS.mk p.1 p.2.1 p.2.2.1) (fun o => (o.k, o.a, o.b, ())) (fun _ => rfl) (fun _ => rfl)) (by
      rintro a d ⟨ds, rfl, x, ds1, rfl, hx, y, ds2, rfl, hy, z, ds3, rfl, hz, rfl⟩
      exact ⟨_, _, _, rfl, hx, hy, hz⟩)

abbrev dInst (i : InstS) (d : DataW H) : Prop := ∃ o s t e n k, d = .agg [o, s, t, e, n, k] ∧ dInt i.op o ∧ dOper i.s s ∧ dOper i.t t ∧ dOper i.d e ∧ dInt i.n n ∧ dInt i.k k

theorem oInst : Opens encH Tryz.prog W pvInst dInst 30 12 :=
  dat_iff (Opens'.iso (opens_struct Tryz.underlying30 (by kernel_rfl) (fields_cons rfl rfl oInt (fields_cons rfl rfl oOper (fields_cons rfl rfl oOper (fields_cons rfl rfl oOper (fields_cons rfl rfl oInt2 (fields_cons rfl rfl oInt fields_nil)))))))
    (fun p => InstS.mk p.1 p.2.1 p.2.2.1 p.2.2.2.1 p.2.2.2.2.1 p.2.2.2.2.2.1) (fun i => (i.op, i.s, i.t, i.d, i.n, i.k, ())) (fun _ => rfl) (fun _ => rfl)) (by
      rintro a d ⟨ds, rfl, x, ds1, rfl, hx, y, ds2, rfl, hy, z, ds3, rfl, hz, u, ds4, rfl, hu, v, ds5, rfl, hv, w, ds6, rfl, hw, rfl⟩
      exact ⟨_, _, _, _, _, _, rfl, hx, hy, hz, hu, hv, hw⟩)

theorem dOper_ok {o : OperS} {d : DataW H} (h : dOper o d) : o.ok = true := by
  obtain ⟨x, y, z, _, h1, h2, h3⟩ := h
  simp [OperS.ok, dInt_in h1, dInt_in h2, dInt_in h3]

theorem dInst_ok {i : InstS} {d : DataW H} (h : dInst i d) : i.ok = true := by
  obtain ⟨_, _, _, _, _, _, _, h1, h2, h3, h4, h5, h6⟩ := h
  simp [InstS.ok, dInt_in h1, dOper_ok h2, dOper_ok h3, dOper_ok h4, dInt_in h5, dInt_in h6]
end

end Go.Proofs.YtgghfcchanilpaaGreatDoor
