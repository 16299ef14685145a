import Derived.KernelRfl
import Derived.Test.YtgghfcchanilpaaGreatDoorAnn
import Derived.Test.YtgghfcchanilpaaGreatDoorProg
import Derived.Test.YtgghfcchanilpaaGreatDoorSpB
import Derived.Lib.ItoaLen
import Derived.Test.YtgghfcchanilpaaGreatDoorPlI
set_option linter.unusedVariables false
set_option linter.unusedSimpArgs false
namespace Go.Proofs.YtgghfcchanilpaaGreatDoor
open Go Go.Abs
theorem awakeB : bodyC (algB Tryz.prog annF 3000 60) Tryz.prog annF 12 [] [] (fun r σ => match r with
  | .ret (.bool true) => beqS σ []
  | _ => false) = true := by kernel_rfl
end Go.Proofs.YtgghfcchanilpaaGreatDoor
namespace Go.Proofs.YtgghfcchanilpaaGreatDoor
open Go Go.Abs
theorem c12 : Ret W 12 [] [] (.bool true) := fun R hR => by
 refine callW_of_reckoned (R' := R) (fun r σ hr => ?_) awakeB
 split at hr
 ·rw [beqS_sound _ _ hr]
  exact hR
 ·cases hr
theorem known_iff {n : Int} : knownS n = true ↔ 0 ≤ n ∧ n < 40 := by simp [knownS]
theorem arrOff {n : Int} (h : knownS n = true) : vArrOff 2 40 (.int .i64 n) = some (n.toNat * 2) := by
 have := known_iff.1 h
 simp only [vArrOff]
 rw [if_pos (by omega)]
theorem ops_name {n : Int} (h : knownS n = true) : opsPV[n.toNat * 2]? = some (.str (entryS n).1) ∧ opsPV[n.toNat * 2 + 1]? = some (.str (entryS n).2) := by
 have h' := known_iff.1 h
 have := ops_at ⟨n.toNat,by omega⟩
 simp only [Int.toNat_of_nonneg h'.1] at this
 rw [Nat.mul_comm]
 exact this
theorem ent_at {n : Int} (h : knownS n = true) {k : LK} {q : IntKind} : vIndex 2 (.list k (opTab.map entPV)) (.int q n) = some (.eptr (entPV (entryS n)) 0) := by
 have h' := known_iff.1 h
 have e1 : opTab[n.toNat]? = some (entryS n) := by
  unfold entryS
  rw [List.getD_eq_getElem?_getD,List.getElem?_eq_getElem (by rw [opTab_length]; omega),Option.getD_some]
 have := vIndex_list (lk := k) q (xs := opTab.map entPV) (sz := 2) (i := n.toNat) (e := entPV (entryS n)) (by rw [List.getElem?_map,e1]; rfl) (cs := _) rfl rfl
 rw [Int.toNat_of_nonneg h'.1] at this
 exact this
theorem not_known {n : Int} : (decide (n < 0) || decide (n ≥ 40)) = !knownS n := by
 unfold knownS
 by_cases h0 : n < 0
 ·have : ¬ 0 ≤ n := by omega
  simp [h0,this]
 ·have h1 : 0 ≤ n := by omega
  by_cases h2 : n ≥ 40
  ·have : ¬ n < 40 := by omega
   simp [h0,h1,h2,this]
  ·have : n < 40 := by omega
   simp [h0,h1,h2,this]
theorem c18 (n : Int) (σ : St) : Ret W 18 [.int .i64 n] σ (.str (formS n)) := by
 refine ret_of fun R hR => ?_
 rw [fn18_eq]
 unfold fn18
 unfold formS at hR
 have hk := not_known (n := n)
 simp only [zz,Nat.reduceEqDiff]
 cases h0 : decide (n < 0) with
 | true =>
  rw [h0] at hk
  have hk' : knownS n = false := by simpa using hk
  rw [hk'] at hR
  simp only [zz,Nat.reduceEqDiff]
  exact weakW_keep hR
 | false =>
  rw [h0] at hk
  simp only [zz,Nat.reduceEqDiff]
  cases h1 : decide (n ≥ 40) with
  | true =>
   rw [h1] at hk
   have hk' : knownS n = false := by simpa using hk
   rw [hk'] at hR
   simp only [zz,Nat.reduceEqDiff]
   exact weakW_keep hR
  | false =>
   rw [h1] at hk
   have hk' : knownS n = true := by simpa using hk
   rw [hk'] at hR
   simp only [zz,Nat.reduceEqDiff]
   refine (c38 _).callB ?_
   simp only [ent_at hk',entPV,zz,Nat.reduceEqDiff]
   exact weakW_keep hR
theorem frz_same {σ : St} {n : Nat} {v : PV} (h : Under n v) : Frz σ n v v := .base v h
end Go.Proofs.YtgghfcchanilpaaGreatDoor
namespace Go.Proofs.YtgghfcchanilpaaGreatDoor
open Go Go.Abs
def fn42 (Pr : Program) (W : CallP) (a0 a1 : PV) (σ : St) (R : Res → St → Prop) : Prop :=
oF (vBin none .geq a0 (.int .i64 0)) fun v0 =>
guardG False v0 true (fun J1 =>
oF (vBin none .lss a0 a1) fun v4 =>
J1 (lookE [(8,(.v a0)),(9,(.v a1)),(10,(.v v4))]) σ) σ (fun y2 σ3 =>
oF (vPick v0 (y2 10).pv (.bool false)) fun v5 =>
wkR σ v5 σ3 R)
theorem fn42_eq (W : CallP) (a0 a1 : PV) (σ : St) (R : Res → St → Prop) : bodyC (algP W) Tryz.prog annF 42 [a0,a1] σ R = fn42 Tryz.prog W a0 a1 σ R := by kernel_rfl
end Go.Proofs.YtgghfcchanilpaaGreatDoor
namespace Go.Proofs.YtgghfcchanilpaaGreatDoor
open Go Go.Abs
open Go.Lib (decDigits itoa)
theorem c42 (n m : Int) (σ : St) : Ret W 42 [.int .i64 n,.int .i64 m] σ (.bool (inS n m)) := by
 refine ret_of fun R hR => ?_
 rw [fn42_eq]
 unfold fn42
 unfold inS at hR
 simp only [zz,Nat.reduceEqDiff]
 cases h : decide (n ≥ 0) with
 | true =>
  rw [h] at hR
  simp only [zz,Nat.reduceEqDiff]
  exact weakW_keep (by simpa using hR)
 | false =>
  rw [h] at hR
  simp only [zz,Nat.reduceEqDiff]
  exact weakW_keep (by simpa using hR)
theorem wrap_u64 (n : Int) : IntKind.wrap .u64 n = n % 18446744073709551616 := by
 show (if (false && decide (n % (2 ^ 64 : Int) ≥ (2 ^ 63 : Int))) = true then n % (2 ^ 64 : Int) - (2 ^ 64 : Int) else n % (2 ^ 64 : Int)) = _
 have e1 : (2 ^ 64 : Int) = 18446744073709551616 := by decide
 rw [e1]
 rfl
theorem wrap_u8 (n : Int) : IntKind.wrap .u8 n = n % 256 := by
 show (if (false && decide (n % (2 ^ 8 : Int) ≥ (2 ^ 7 : Int))) = true then n % (2 ^ 8 : Int) - (2 ^ 8 : Int) else n % (2 ^ 8 : Int)) = _
 have e1 : (2 ^ 8 : Int) = 256 := by decide
 rw [e1]
 rfl
theorem b1_u8 (x : Int) : vBuildSl 1 (List.replicate 1 (.int .u8 0)) [(0,.int .u8 x)] = some [.int .u8 x] := rfl
end Go.Proofs.YtgghfcchanilpaaGreatDoor
