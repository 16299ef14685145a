import Derived.Test.YtgghfcchanilpaaGreatDoorSpD
import Derived.Test.YtgghfcchanilpaaGreatDoorSpJ
import Derived.Test.YtgghfcchanilpaaGreatDoorFnE
set_option linter.unusedVariables false
set_option linter.unusedSimpArgs false
namespace Go.Proofs.YtgghfcchanilpaaGreatDoor
open Go Go.Abs
theorem c75 (n m : Int) (σ : St) : Ret W 75 [.int .i64 n,.int .i64 m] σ (.bool (inS n m)) := by
 refine QE fun R hR => ?_
 rw [Dx]
 delta AL bF gF nI
 simp only [zz,Nat.reduceEqDiff]
 unfold inS at hR
 refine XW (decide (n < m)) (fun _ J hJ => ?_) ?_
 ·exact hJ _ rfl
 ·exact Q2 hR
theorem P7 (s : Xb) : opC.vBoxAny (Qm s) = some (5,Qm s) ∧ Q6 false 1 (Qm s) 0 = some (.int .i64 s.kind) ∧ Q6 false 1 (Qm s) 1 = some (.int .i64 s.size) ∧ Q6 false 1 (Qm s) 2 = some (.int .i64 s.map) ∧ Q6 false 1 (Qm s) 3 = some (.int .i64 s.dims) ∧ Q6 false 1 (Qm s) 4 = some (.bool s.flex) :=
 ⟨rfl,rfl,rfl,rfl,rfl,rfl⟩
def Pz (c : Qp) : Blk := .map 4 [(.int .i64 8,.int .i64 (len c.maps)),(.int .i64 9,.int .i64 (len c.maps)),(.int .i64 10,.int .i64 (len c.unions)),(.int .i64 11,.int .i64 (len c.sigs))]
theorem lm1 (σ : St) (x : PV) : Zh .int (.mref σ.length) (.int .i64 8) x (σ ++ [.map 0 []]) = some (σ ++ [.map 1 [(.int .i64 8,x)]]) := by
 simp [Zh,isKey,V6]
theorem lm2 (σ : St) (x y : PV) : Zh .int (.mref σ.length) (.int .i64 9) y (σ ++ [.map 1 [(.int .i64 8,x)]]) = some (σ ++ [.map 2 [(.int .i64 8,x),(.int .i64 9,y)]]) := by
 simp [Zh,isKey,V6,Vc]
theorem lm3 (σ : St) (x y z : PV) : Zh .int (.mref σ.length) (.int .i64 10) z (σ ++ [.map 2 [(.int .i64 8,x),(.int .i64 9,y)]]) = some (σ ++ [.map 3 [(.int .i64 8,x),(.int .i64 9,y),(.int .i64 10,z)]]) := by
 simp [Zh,isKey,V6,Vc]
theorem lm4 (σ : St) (x y z u : PV) : Zh .int (.mref σ.length) (.int .i64 11) u (σ ++ [.map 3 [(.int .i64 8,x),(.int .i64 9,y),(.int .i64 10,z)]]) = some (σ ++ [.map 4 [(.int .i64 8,x),(.int .i64 9,y),(.int .i64 10,z),(.int .i64 11,u)]]) := by
 simp [Zh,isKey,V6,Vc]
theorem DW (σ : St) (c : Qp) (k : Int) : Y5 .int (.int .i64 0) true (.mref σ.length) (.int .i64 k) (σ ++ [Pz c]) =
  some (.tuple [.int .i64 (if k = 8 ∨ k = 9 ∨ k = 10 ∨ k = 11 then Nw c k else 0),.bool (decide (k = 8 ∨ k = 9 ∨ k = 10 ∨ k = 11))]) := by
 unfold Pz Nw
 simp only [Y5,isKey,Sv,if_true]
 by_cases h8 : k = 8
 ·subst h8; simp [V6,Vc]
 by_cases h9 : k = 9
 ·subst h9; simp [V6,Vc]
 by_cases h10 : k = 10
 ·subst h10; simp [V6,Vc]
 by_cases h11 : k = 11
 ·subst h11; simp [V6,Vc]
 have e8 : ¬ (8 : Int) = k := fun h => h8 h.symm
 have e9 : ¬ (9 : Int) = k := fun h => h9 h.symm
 have e10 : ¬ (10 : Int) = k := fun h => h10 h.symm
 have e11 : ¬ (11 : Int) = k := fun h => h11 h.symm
 have b8 : (k == 8) = false := by simp [h8]
 have b9 : (k == 9) = false := by simp [h9]
 have b10 : (k == 10) = false := by simp [h10]
 have b11 : (k == 11) = false := by simp [h11]
 simp [V6,Vc,h8,h9,h10,h11,e8,e9,e10,e11,b8,b9,b10,b11]
theorem Iv {b s : Bool} {op : ((Nat → EV) → St → Prop) → Prop} {σ : St} {C : (Nat → EV) → St → Prop} (h1 : b = true → XB False (.bool true) s op σ C) (h2 : b = false → XB False (.bool false) s op σ C) : XB False (.bool b) s op σ C := by
 cases b with
 | true => exact h1 rfl
 | false => exact h2 rfl
theorem Ip (n : Nat) (b : Bool) : XR n (.bool b) := .bool b
theorem c112 {c : Qp} (r i : Int) (s : Xb) (σ : St) : Ret W 112 [X2 c r i,Qm s] σ (.bool (T9 c s)) := by
 refine QE fun R hR => ?_
 rw [GC]
 delta BD bF pF gF kF nI
 simp only [QU,P7,Ql,lm1,lm2,lm3,lm4,Kf,zz,Nat.reduceEqDiff]
 have fin : ∀ b : Bool,T9 c s = b → XG σ (.bool b) (σ ++ [Pz c]) fun v σ => R (.ret v) σ := fun b hb => by
  rw [hb] at hR
  exact Yi (List.prefix_append _ _) (Se (Ip _ _)) hR
 clear hR
 refine orG (s.kind == 3) (fun _ J hJ => ?_) ?_
 ·exact hJ _ rfl
 refine orG (s.kind == 4) (fun _ J hJ => ?_) ?_
 ·exact hJ _ rfl
 have hk := DW σ c s.kind
 unfold Pz at hk
 simp only [hk,lm1,lm2,lm3,lm4,Kf,zz,Nat.reduceEqDiff]
 clear hk
 refine Qr (fun x τ => x 3 = Qm s ∧ x 5 = .bool (s.kind == 2 || s.kind == 3 || s.kind == 4) ∧ x 6 = .bool (s.kind == 9) ∧ x 8 = .int .i64 (Nw c s.kind) ∧ τ = σ ++ [Pz c]) (fun x τ hx => ?_) ?_
 case refine_2 =>
  refine Qu (fun hb => ⟨rfl,rfl,rfl,?_,rfl⟩) (fun hb => ⟨rfl,rfl,rfl,?_,rfl⟩)
  ·simp at hb
   simp [Nw,hb,Qz]
  ·simp at hb
   have h' : s.kind = 8 ∨ s.kind = 9 ∨ s.kind = 10 ∨ s.kind = 11 := by omega
   show PV.int .i64 (if s.kind = 8 ∨ s.kind = 9 ∨ s.kind = 10 ∨ s.kind = 11 then Nw c s.kind else 0) = _
   rw [if_pos h']
 obtain ⟨h3,h5,h6,h8,rfl⟩ := hx
 simp only [h3,h5,h6,h8,P7,zz,Nat.reduceEqDiff]
 refine XW (decide (s.kind < 12)) (fun _ J hJ => ?_) ?_
 ·exact hJ _ rfl
 repeat' first
  | (refine Iv (fun hb => ?_) (fun hb => ?_) <;> simp only [hb,zz,Nat.reduceEqDiff])
  | (refine (c42 _ _ _).Q0 ?_; try simp only [zz,Nat.reduceEqDiff])
  | refine fin _ ?_
 all_goals clear fin h3 h5 h6 h8
 all_goals first | (simp_all [T9,sizedB]; done) | (simp only [T9,sizedB]; grind)
theorem c123 {c : Qp} (s : Xb) (σ : St) : Ret W 123 [Qt c,Qm s] σ (.bool (T9 c s)) := by
 refine QE fun R hR => ?_
 rw [FC]
 delta CG bF pF gF kF nI
 simp only [Qf,P7,Ql,zz,Nat.reduceEqDiff]
 have fin : ∀ b : Bool,T9 c s = b → XG σ (.bool b) σ fun v σ => R (.ret v) σ := fun b hb => by
  rw [hb] at hR
  exact Q2 hR
 clear hR
 refine orG (s.kind == 3) (fun _ J hJ => ?_) ?_
 ·exact hJ _ rfl
 refine orG (s.kind == 4) (fun _ J hJ => ?_) ?_
 ·exact hJ _ rfl
 refine (c75 _ _ _).Q0 ?_
 simp only [zz,Nat.reduceEqDiff]
 repeat' first
  | (refine Iv (fun hb => ?_) (fun hb => ?_) <;> simp only [hb,zz,Nat.reduceEqDiff])
  | (refine Qu (fun hb => ?_) (fun hb => ?_) <;> try simp only [hb,zz,Nat.reduceEqDiff])
  | (refine (c75 _ _ _).Q0 ?_; try simp only [zz,Nat.reduceEqDiff])
  | (refine TC ?_; simp only [zz,Nat.reduceEqDiff])
  | refine fin _ ?_
 all_goals clear fin
 all_goals (simp only [T9,sizedB,Nw,inS] at *; grind)
end Go.Proofs.YtgghfcchanilpaaGreatDoor
