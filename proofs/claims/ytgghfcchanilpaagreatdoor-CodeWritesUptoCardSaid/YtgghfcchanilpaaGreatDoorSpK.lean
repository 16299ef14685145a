import Derived.Test.YtgghfcchanilpaaGreatDoorSpD
import Derived.Test.YtgghfcchanilpaaGreatDoorSpJ
import Derived.Test.YtgghfcchanilpaaGreatDoorFnE
set_option linter.unusedVariables false
set_option linter.unusedSimpArgs false
namespace Go.Proofs.YtgghfcchanilpaaGreatDoor
open Go Go.Abs
theorem c75 (n m : Int) (σ : St) : Ret W 75 [.int .i64 n,.int .i64 m] σ (.bool (inS n m)) := by
 refine ret_of fun R hR => ?_
 rw [fn75_eq]
 unfold fn75
 simp only [zz,Nat.reduceEqDiff]
 unfold inS at hR
 refine andG (decide (n < m)) (fun _ J hJ => ?_) ?_
 ·exact hJ _ rfl
 ·exact weakW_keep hR
theorem slot_parts (s : SlotS) : opC.vBoxAny (pvSlot s) = some (5,pvSlot s) ∧ vPart false 1 (pvSlot s) 0 = some (.int .i64 s.kind) ∧ vPart false 1 (pvSlot s) 1 = some (.int .i64 s.size) ∧ vPart false 1 (pvSlot s) 2 = some (.int .i64 s.map) ∧ vPart false 1 (pvSlot s) 3 = some (.int .i64 s.dims) ∧ vPart false 1 (pvSlot s) 4 = some (.bool s.flex) :=
 ⟨rfl,rfl,rfl,rfl,rfl,rfl⟩
def linkMap (c : CodeS) : Blk := .map 4 [(.int .i64 8,.int .i64 (len c.maps)),(.int .i64 9,.int .i64 (len c.maps)),(.int .i64 10,.int .i64 (len c.unions)),(.int .i64 11,.int .i64 (len c.sigs))]
theorem lm1 (σ : St) (x : PV) : vMapSet .int (.mref σ.length) (.int .i64 8) x (σ ++ [.map 0 []]) = some (σ ++ [.map 1 [(.int .i64 8,x)]]) := by
 simp [vMapSet,isKey,vFind]
theorem lm2 (σ : St) (x y : PV) : vMapSet .int (.mref σ.length) (.int .i64 9) y (σ ++ [.map 1 [(.int .i64 8,x)]]) = some (σ ++ [.map 2 [(.int .i64 8,x),(.int .i64 9,y)]]) := by
 simp [vMapSet,isKey,vFind,vEqS]
theorem lm3 (σ : St) (x y z : PV) : vMapSet .int (.mref σ.length) (.int .i64 10) z (σ ++ [.map 2 [(.int .i64 8,x),(.int .i64 9,y)]]) = some (σ ++ [.map 3 [(.int .i64 8,x),(.int .i64 9,y),(.int .i64 10,z)]]) := by
 simp [vMapSet,isKey,vFind,vEqS]
theorem lm4 (σ : St) (x y z u : PV) : vMapSet .int (.mref σ.length) (.int .i64 11) u (σ ++ [.map 3 [(.int .i64 8,x),(.int .i64 9,y),(.int .i64 10,z)]]) = some (σ ++ [.map 4 [(.int .i64 8,x),(.int .i64 9,y),(.int .i64 10,z),(.int .i64 11,u)]]) := by
 simp [vMapSet,isKey,vFind,vEqS]
theorem lm_look (σ : St) (c : CodeS) (k : Int) : vLookup .int (.int .i64 0) true (.mref σ.length) (.int .i64 k) (σ ++ [linkMap c]) =
  some (.tuple [.int .i64 (if k = 8 ∨ k = 9 ∨ k = 10 ∨ k = 11 then slotN c k else 0),.bool (decide (k = 8 ∨ k = 9 ∨ k = 10 ∨ k = 11))]) := by
 unfold linkMap slotN
 simp only [vLookup,isKey,new_get,if_true]
 by_cases h8 : k = 8
 ·subst h8; simp [vFind,vEqS]
 by_cases h9 : k = 9
 ·subst h9; simp [vFind,vEqS]
 by_cases h10 : k = 10
 ·subst h10; simp [vFind,vEqS]
 by_cases h11 : k = 11
 ·subst h11; simp [vFind,vEqS]
 have e8 : ¬ (8 : Int) = k := fun h => h8 h.symm
 have e9 : ¬ (9 : Int) = k := fun h => h9 h.symm
 have e10 : ¬ (10 : Int) = k := fun h => h10 h.symm
 have e11 : ¬ (11 : Int) = k := fun h => h11 h.symm
 have b8 : (k == 8) = false := by simp [h8]
 have b9 : (k == 9) = false := by simp [h9]
 have b10 : (k == 10) = false := by simp [h10]
 have b11 : (k == 11) = false := by simp [h11]
 simp [vFind,vEqS,h8,h9,h10,h11,e8,e9,e10,e11,b8,b9,b10,b11]
theorem guardB {b s : Bool} {op : ((Nat → EV) → St → Prop) → Prop} {σ : St} {C : (Nat → EV) → St → Prop} (h1 : b = true → guardG False (.bool true) s op σ C) (h2 : b = false → guardG False (.bool false) s op σ C) : guardG False (.bool b) s op σ C := by
 cases b with
 | true => exact h1 rfl
 | false => exact h2 rfl
theorem under_bool (n : Nat) (b : Bool) : Under n (.bool b) := .bool b
theorem c112 {c : CodeS} (r i : Int) (s : SlotS) (σ : St) : Ret W 112 [pvChk c r i,pvSlot s] σ (.bool (slotB c s)) := by
 refine ret_of fun R hR => ?_
 rw [fn112_eq]
 unfold fn112
 simp only [chk_parts,slot_parts,sl_len,lm1,lm2,lm3,lm4,newMapW,zz,Nat.reduceEqDiff]
 have fin : ∀ b : Bool,slotB c s = b → weakW σ (.bool b) (σ ++ [linkMap c]) fun v σ => R (.ret v) σ := fun b hb => by
  rw [hb] at hR
  exact weakW_clean (List.prefix_append _ _) (frz_same (under_bool _ _)) hR
 clear hR
 refine orG (s.kind == 3) (fun _ J hJ => ?_) ?_
 ·exact hJ _ rfl
 refine orG (s.kind == 4) (fun _ J hJ => ?_) ?_
 ·exact hJ _ rfl
 have hk := lm_look σ c s.kind
 unfold linkMap at hk
 simp only [hk,lm1,lm2,lm3,lm4,newMapW,zz,Nat.reduceEqDiff]
 clear hk
 refine CutW_by (fun x τ => x 3 = pvSlot s ∧ x 5 = .bool (s.kind == 2 || s.kind == 3 || s.kind == 4) ∧ x 6 = .bool (s.kind == 9) ∧ x 8 = .int .i64 (slotN c s.kind) ∧ τ = σ ++ [linkMap c]) (fun x τ hx => ?_) ?_
 case refine_2 =>
  refine condB (fun hb => ⟨rfl,rfl,rfl,?_,rfl⟩) (fun hb => ⟨rfl,rfl,rfl,?_,rfl⟩)
  ·simp at hb
   simp [slotN,hb,lookP]
  ·simp at hb
   have h' : s.kind = 8 ∨ s.kind = 9 ∨ s.kind = 10 ∨ s.kind = 11 := by omega
   show PV.int .i64 (if s.kind = 8 ∨ s.kind = 9 ∨ s.kind = 10 ∨ s.kind = 11 then slotN c s.kind else 0) = _
   rw [if_pos h']
 obtain ⟨h3,h5,h6,h8,rfl⟩ := hx
 simp only [h3,h5,h6,h8,slot_parts,zz,Nat.reduceEqDiff]
 refine andG (decide (s.kind < 12)) (fun _ J hJ => ?_) ?_
 ·exact hJ _ rfl
 repeat' first
  | (refine guardB (fun hb => ?_) (fun hb => ?_) <;> simp only [hb,zz,Nat.reduceEqDiff])
  | (refine (c42 _ _ _).callB ?_; try simp only [zz,Nat.reduceEqDiff])
  | refine fin _ ?_
 all_goals clear fin h3 h5 h6 h8
 all_goals first | (simp_all [slotB,sizedB]; done) | (simp only [slotB,sizedB]; grind)
theorem c123 {c : CodeS} (s : SlotS) (σ : St) : Ret W 123 [pvCode c,pvSlot s] σ (.bool (slotB c s)) := by
 refine ret_of fun R hR => ?_
 rw [fn123_eq]
 unfold fn123
 simp only [code_parts,slot_parts,sl_len,zz,Nat.reduceEqDiff]
 have fin : ∀ b : Bool,slotB c s = b → weakW σ (.bool b) σ fun v σ => R (.ret v) σ := fun b hb => by
  rw [hb] at hR
  exact weakW_keep hR
 clear hR
 refine orG (s.kind == 3) (fun _ J hJ => ?_) ?_
 ·exact hJ _ rfl
 refine orG (s.kind == 4) (fun _ J hJ => ?_) ?_
 ·exact hJ _ rfl
 refine (c75 _ _ _).callB ?_
 simp only [zz,Nat.reduceEqDiff]
 repeat' first
  | (refine guardB (fun hb => ?_) (fun hb => ?_) <;> simp only [hb,zz,Nat.reduceEqDiff])
  | (refine condB (fun hb => ?_) (fun hb => ?_) <;> try simp only [hb,zz,Nat.reduceEqDiff])
  | (refine (c75 _ _ _).callB ?_; try simp only [zz,Nat.reduceEqDiff])
  | (refine CutW_of ?_; simp only [zz,Nat.reduceEqDiff])
  | refine fin _ ?_
 all_goals clear fin
 all_goals (simp only [slotB,sizedB,slotN,inS] at *; grind)
end Go.Proofs.YtgghfcchanilpaaGreatDoor
