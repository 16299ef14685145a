/- What the functions on names and forms of operations answer. -/
import Derived.Test.YtgghfcchanilpaaGreatDoorFnA
import Derived.Test.YtgghfcchanilpaaGreatDoorAbsZ
import Derived.Test.YtgghfcchanilpaaGreatDoorPlB
set_option linter.unusedVariables false
set_option linter.unusedSimpArgs false
namespace Go.Proofs.YtgghfcchanilpaaGreatDoor
open Go Go.Abs

abbrev W : CallP := callW Tryz.prog annF

theorem ret_of {f : FuncId} {args : List PV} {σ : St} {v : PV} (h : ∀ R : Res → St → Prop, R (.ret v) σ → bodyC (algP W) Tryz.prog annF f args σ R) : Ret W f args σ v := fun R hR => callW_fold (h R hR)

def entPV (p : Str × Str) : PV := .agg [.str p.1, .str p.2]
theorem fn38_eq (W : CallP) (σ : St) (R : Res → St → Prop) : bodyC (algP W) Tryz.prog annF 38 [] σ R = weakW σ (.list .full (opTab.map entPV)) σ fun v σ => R (.ret v) σ := by kernel_rfl
theorem globPV0 : globPV 0 = .eptr (.agg opsPV) 0 := rfl
theorem ops_sub : vSubArr true 2 40 (.eptr (.agg opsPV) 0) = some (.list .part (opTab.map entPV)) := by kernel_rfl
theorem ops_at : ∀ n : Fin 40, opsPV[2 * n.val]? = some (.str (entryS ((n.val : Nat) : Int)).1) ∧ opsPV[2 * n.val + 1]? = some (.str (entryS ((n.val : Nat) : Int)).2) := by
  have h : (List.range 40).all (fun n => (match opsPV[2 * n]? with | some (.str s) => s == (entryS (n : Int)).1 | _ => false) && (match opsPV[2 * n + 1]? with | some (.str s) => s == (entryS (n : Int)).2 | _ => false)) = true := by decide +kernel
  intro n
  have := List.all_eq_true.1 h n.val (by simp)
  simp only [Bool.and_eq_true] at this
  obtain ⟨h1, h2⟩ := this
  constructor
  · split at h1
    · rename_i s hs; rw [hs, eq_of_beq h1]
    · cases h1
  · split at h2
    · rename_i s hs; rw [hs, eq_of_beq h2]
    · cases h2

theorem c38 (σ : St) : Ret W 38 [] σ (.list .full (opTab.map entPV)) := by
  refine ret_of fun R hR => ?_
  rw [fn38_eq]
  exact weakW_keep hR

theorem c39 (n : Int) (σ : St) : Ret W 39 [.int .i64 n] σ (.bool (knownS n)) := by
  refine ret_of fun R hR => ?_
  rw [fn39_eq]
  unfold fn39
  unfold knownS at hR
  simp only [zz, Nat.reduceEqDiff]
  have e : decide (n ≥ 0) = decide (0 ≤ n) := rfl
  cases h : decide (n ≥ 0) with
  | true =>
    rw [← e, h] at hR
    simp only [zz, Nat.reduceEqDiff]
    exact weakW_keep (by simpa using hR)
  | false =>
    rw [← e, h] at hR
    simp only [zz, Nat.reduceEqDiff]
    exact weakW_keep (by simpa using hR)

end Go.Proofs.YtgghfcchanilpaaGreatDoor
