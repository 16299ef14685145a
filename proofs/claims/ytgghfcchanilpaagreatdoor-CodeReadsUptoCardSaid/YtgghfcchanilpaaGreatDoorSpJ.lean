import Derived.Test.YtgghfcchanilpaaGreatDoorTabW
import Derived.Test.YtgghfcchanilpaaGreatDoorSpD
import Derived.Test.YtgghfcchanilpaaGreatDoorFnD
set_option linter.unusedVariables false
set_option linter.unusedSimpArgs false
namespace Go.Abs
theorem orG {b : Bool} {k : Nat} {op : ((Nat → EV) → St → Prop) → Prop} {σ : St} {C : PV → St → Prop} (c : Bool)
  (h1 : b = false → ∀ J : (Nat → EV) → St → Prop,(∀ y,(y k).pv = .bool c → J y σ) → op J) (h2 : C (.bool (b || c)) σ) :
  XB False (.bool b) false op σ (fun y σ' => Qg False (Qc (.bool b) (.bool true) (y k).pv) fun v => C v σ') := by
 cases b with
 | true => exact h2
 | false =>
  show op _
  refine h1 rfl _ fun y hy => ?_
  show Qg False (Qc (.bool false) (.bool true) (y k).pv) fun v => C v σ
  rw [hy]
  exact h2
theorem XW {b : Bool} {k : Nat} {op : ((Nat → EV) → St → Prop) → Prop} {σ : St} {C : PV → St → Prop} (c : Bool)
  (h1 : b = true → ∀ J : (Nat → EV) → St → Prop,(∀ y,(y k).pv = .bool c → J y σ) → op J) (h2 : C (.bool (b && c)) σ) :
  XB False (.bool b) true op σ (fun y σ' => Qg False (Qc (.bool b) (y k).pv (.bool false)) fun v => C v σ') := by
 cases b with
 | false => exact h2
 | true =>
  show op _
  refine h1 rfl _ fun y hy => ?_
  show Qg False (Qc (.bool true) (y k).pv (.bool false)) fun v => C v σ
  rw [hy]
  exact h2
theorem Qu {b : Bool} {A B : Prop} (h1 : b = true → A) (h2 : b = false → B) : Q3 (.bool b) A B := by
 cases b with
 | true => exact h1 rfl
 | false => exact h2 rfl
end Go.Abs
namespace Go.Proofs.YtgghfcchanilpaaGreatDoor
open Go Go.Abs
theorem Ze : Zr Xj true 1 := ⟨fun _ => ⟨_,rfl,rfl⟩,fun _ => rfl⟩
theorem X3 : Zr Qo true 9 := ⟨fun _ => ⟨_,rfl,rfl⟩,fun _ => rfl⟩
theorem Tz : Zr Qm true 5 := ⟨fun _ => ⟨_,rfl,rfl⟩,fun _ => rfl⟩
theorem Xo : Zr QP false 1 := ⟨fun _ => ⟨_,rfl,rfl⟩,fun _ => rfl⟩
theorem encStr : Zr PV.str false 1 := ⟨fun _ => ⟨_,rfl,rfl⟩,fun _ => rfl⟩
theorem encI : Zr pvI false 1 := ⟨fun _ => ⟨_,rfl,rfl⟩,fun _ => rfl⟩
theorem ZB : Zr Qw true 2 := ⟨fun _ => ⟨_,rfl,rfl⟩,fun _ => rfl⟩
theorem PG : Zr X7 true 3 := ⟨fun _ => ⟨_,rfl,rfl⟩,fun _ => rfl⟩
theorem TK : Zr QD true 12 := ⟨fun _ => ⟨_,rfl,rfl⟩,fun _ => rfl⟩
theorem T4 : Zr QY true 3 := ⟨fun _ => ⟨_,rfl,rfl⟩,fun _ => rfl⟩
theorem Ql {α : Type} (enc : α → PV) (l : Sl α) (σ : St) : Qj .sl (QB enc l) σ = some (.int .i64 (len l)) := by
 simp [QB,Qj,len]
theorem QV {α : Type} {enc : α → PV} {ag : Bool} {sz : Nat} (E : Zr enc ag sz) {l : Sl α} {i : Nat} {a : α} (h : l.2[i]? = some a) {k : IntKind} : Q5 sz (QB enc l) (.int k i) = some (.eptr (enc a) 0) := E.index h
theorem Qf (c : Qp) : opC.vBoxAny (Qt c) = some (10,Qt c) ∧ Q6 true 10 (Qt c) 0 = some (Qt c) ∧ Q6 false 1 (Qt c) 0 = some (QB Xj c.maps) ∧ Q6 false 1 (Qt c) 1 = some (QB QP c.unions) ∧ Q6 false 1 (Qt c) 2 = some (QB Qw c.sigs) ∧ Q6 false 1 (Qt c) 3 = some (QB Qo c.routs) ∧
  Q6 false 1 (Qt c) 4 = some (QB QD c.insts) ∧ Q6 false 1 (Qt c) 5 = some (QB QP c.jumps) ∧ Q6 false 1 (Qt c) 6 = some (QB QP c.parts) ∧ Q6 false 1 (Qt c) 7 = some (QB PV.str c.texts) ∧ Q6 false 1 (Qt c) 8 = some (QB QY c.trans) ∧ Q6 false 1 (Qt c) 9 = some (QB Qw c.lines) :=
 ⟨rfl,rfl,rfl,rfl,rfl,rfl,rfl,rfl,rfl,rfl,rfl,rfl⟩
theorem QU (c : Qp) (r i : Int) : opC.vBoxAny (X2 c r i) = some (12,X2 c r i) ∧ Q6 true 12 (X2 c r i) 0 = some (X2 c r i) ∧ Q6 false 1 (X2 c r i) 0 = some (QB Xj c.maps) ∧ Q6 false 1 (X2 c r i) 1 = some (QB QP c.unions) ∧ Q6 false 1 (X2 c r i) 2 = some (QB Qw c.sigs) ∧ Q6 false 1 (X2 c r i) 3 = some (QB Qo c.routs) ∧
  Q6 false 1 (X2 c r i) 4 = some (QB QD c.insts) ∧ Q6 false 1 (X2 c r i) 5 = some (QB QP c.jumps) ∧ Q6 false 1 (X2 c r i) 6 = some (QB QP c.parts) ∧ Q6 false 1 (X2 c r i) 7 = some (QB PV.str c.texts) ∧ Q6 false 1 (X2 c r i) 8 = some (QB QY c.trans) ∧ Q6 false 1 (X2 c r i) 9 = some (QB Qw c.lines) ∧
  Q6 false 1 (X2 c r i) 10 = some (.int .i64 r) ∧ Q6 false 1 (X2 c r i) 11 = some (.int .i64 i) :=
 ⟨rfl,rfl,rfl,rfl,rfl,rfl,rfl,rfl,rfl,rfl,rfl,rfl,rfl,rfl⟩
theorem HV (m : Sl Xb) : opC.vBoxAny (Xj m) = some (1,Xj m) ∧ Q6 false 1 (Xj m) 0 = some (QB Qm m) := ⟨rfl,rfl⟩
theorem J1 (r : Vv) : opC.vBoxAny (Qo r) = some (9,Qo r) ∧ Q6 false 1 (Qo r) 8 = some (QB X7 r.ranges) := ⟨rfl,rfl⟩
theorem c105 (m : Sl Xb) (σ : St) : Ret W 105 [Xj m] σ (.bool (decide (len m > 1000))) := by
 refine QE fun R hR => ?_
 rw [F6]
 delta Bt bF pF nI
 simp only [HV,Ql,zz,Nat.reduceEqDiff]
 exact Q2 hR
theorem c107 (r : Vv) (σ : St) : Ret W 107 [Qo r] σ (.bool (decide (len r.ranges > 4000))) := by
 refine QE fun R hR => ?_
 rw [GK]
 delta BF bF pF nI
 simp only [J1,Ql,zz,Nat.reduceEqDiff]
 exact Q2 hR
theorem c109 (s : Str) (σ : St) : Ret W 109 [.str s] σ (.bool (decide ((s.length : Int) > 65536))) := by
 refine QE fun R hR => ?_
 rw [GG]
 delta BA bF nI
 simp only [zz,Nat.reduceEqDiff]
 exact Q2 hR
theorem c111 (l : Sl Int) (σ : St) : Ret W 111 [QP l] σ (.bool (decide (len l > 4000))) := by
 refine QE fun R hR => ?_
 rw [Eh]
 delta Cx bF nI
 unfold QP
 simp only [Ql,zz,Nat.reduceEqDiff]
 exact Q2 hR
theorem Gz (l : List Int) (h : l.length = 10) : QI 1 (List.replicate 10 (.int .i64 0)) [(0,.int .i64 (l.getD 0 0)),(1,.int .i64 (l.getD 1 0)),(2,.int .i64 (l.getD 2 0)),(3,.int .i64 (l.getD 3 0)),(4,.int .i64 (l.getD 4 0)),(5,.int .i64 (l.getD 5 0)),(6,.int .i64 (l.getD 6 0)),(7,.int .i64 (l.getD 7 0)),(8,.int .i64 (l.getD 8 0)),(9,.int .i64 (l.getD 9 0))] = some (l.map pvI) := by
 match l,h with
 | [a,b,c,d,e,f,g,h,i,j],_ => rfl
def Pw (c : Qp) : List Int := [len c.insts,len c.maps,len c.unions,len c.sigs,len c.routs,len c.jumps,len c.parts,len c.texts,len c.trans,len c.lines]
theorem FI (c : Qp) : QI 1 (List.replicate 10 (.int .i64 0)) [(0,.int .i64 (len c.insts)),(1,.int .i64 (len c.maps)),(2,.int .i64 (len c.unions)),(3,.int .i64 (len c.sigs)),(4,.int .i64 (len c.routs)),(5,.int .i64 (len c.jumps)),(6,.int .i64 (len c.parts)),(7,.int .i64 (len c.texts)),(8,.int .i64 (len c.trans)),(9,.int .i64 (len c.lines))] = some ((Pw c).map pvI) := Gz (Pw c) rfl
theorem GP (a b c : Sl (Sl Int)) : QI 1 (List.replicate 3 (.list .nil [])) [(0,QB QP a),(1,QB QP b),(2,QB QP c)] = some ([a,b,c].map (QB QP)) := rfl
theorem KF : Zr (QB QP) false 1 := ⟨fun _ => ⟨_,rfl,rfl⟩,fun _ => rfl⟩
theorem c58 {c : Qp} (hc : VX c) (r i : Int) (σ : St) : Ret W 58 [X2 c r i] σ (.int .i64 (if OU c then 3 else 0)) := by
 refine QE fun R hR => ?_
 rw [Dh]
 delta qH bF pF gF kF nI nL
 simp only [QU,Ql,FI,zz,Nat.reduceEqDiff]
 have hll : (Pw c).length = 10 := rfl
 have hlo : M3 c = (Pw c).any fun n => decide (n > 16384) := rfl
 unfold OU at hR
 rw [hlo] at hR
 generalize Pw c = l at hR hll
 simp only [List.length_map,zz,Nat.reduceEqDiff]
 refine QT l.length (fun j x σ' => x = Qz [(48,.list .full (l.map pvI)),(49,.int .i64 l.length),(50,.int .i64 j),(1,X2 c r i)] ∧ σ' = σ ∧ ((l.take j).any fun n => decide (n > 16384)) = false) ?_ ⟨rfl,rfl,rfl⟩
 rintro Φ j x σ' hj ⟨rfl,rfl,hp⟩ next
 simp only [zz,Nat.reduceEqDiff]
 by_cases hlt : j < l.length
 ·have hg : l[j]? = some l[j] := by simp [hlt]
  generalize l[j] = n at hg
  simp only [hlt,decide_true,encI.index hg,encI.part,zz,Nat.reduceEqDiff]
  refine Qu (fun hb => ?_) (fun hb => ?_)
  ·refine Q2 ?_
   rw [Tk hg (q := fun n => decide (n > 16384)) hb] at hR
   exact hR
  ·rw [Qi _ (by omega) (by omega)]
   simp only [zz,Nat.reduceEqDiff]
   exact next _ _ hlt ⟨by simp,rfl,U9 hp hg hb⟩
 ·obtain rfl : j = l.length := by omega
  rw [List.take_length] at hp
  rw [hp] at hR
  simp only [Bool.false_or] at hR
  simp only [hlt,decide_false,QU,zz,Nat.reduceEqDiff]
  refine (c104 Ze (fun m => decide (len m > 1000)) (by kernel_rfl) (by have := hc.maps; omega) (fun m _ => c105 m _)).Q0 ?_
  refine orG (c.routs.2.any fun r => decide (len r.ranges > 4000)) (fun _ J hJ => ?_) ?_
  ·refine (c106 X3 (fun r => decide (len r.ranges > 4000)) (by kernel_rfl) (by have := hc.routs; omega) (fun m _ => c107 m _)).Q0 ?_
   exact hJ _ rfl
  refine orG (c.texts.2.any fun s => decide ((s.length : Int) > 65536)) (fun _ J hJ => ?_) ?_
  ·refine (c108 encStr (fun s : Str => decide ((s.length : Int) > 65536)) (by kernel_rfl) (by have := hc.texts; omega) (fun m _ => c109 m _)).Q0 ?_
   exact hJ _ rfl
  have hio : T6 c = ((c.maps.2.any fun m => decide (len m > 1000)) || (c.routs.2.any fun r => decide (len r.ranges > 4000)) || (c.texts.2.any fun s => decide ((s.length : Int) > 65536))) := by
   unfold T6
   rw [Bool.or_assoc]
  rw [← hio]
  simp only [QU,GP,zz,Nat.reduceEqDiff]
  have h3 : (U5 c.unions || (U5 c.jumps || U5 c.parts)) = ([c.unions,c.jumps,c.parts].any U5) := by simp
  have hl3 : ∀ q ∈ [c.unions,c.jumps,c.parts],q.2.length ≤ 1048576 := by
   intro q hq
   simp at hq
   rcases hq with rfl | rfl | rfl
   ·exact hc.unions
   ·exact hc.jumps
   ·exact hc.parts
  rw [h3] at hR
  have h33 : [c.unions,c.jumps,c.parts].length = 3 := rfl
  generalize [c.unions,c.jumps,c.parts] = q at hR hl3 h33
  generalize T6 c = b0 at hR
  simp only [List.length_map,zz,Nat.reduceEqDiff]
  refine QT q.length (fun j x τ => x = Qz [(5,.bool (b0 || (q.take j).any U5)),(82,.list .full (q.map (QB QP))),(83,.int .i64 q.length),(84,.int .i64 j)] ∧ τ = σ') ?_ ⟨by simp,rfl⟩
  rintro Φ2 j x τ hj ⟨rfl,rfl⟩ next2
  simp only [zz,Nat.reduceEqDiff]
  by_cases hlt2 : j < q.length
  ·have hg : q[j]? = some q[j] := by simp [hlt2]
   have hmem : q[j] ∈ q := by simp
   generalize q[j] = t at hg hmem
   simp only [hlt2,decide_true,KF.index hg,KF.part,zz,Nat.reduceEqDiff]
   refine orG (U5 t) (fun _ J hJ => ?_) ?_
   ·refine (vG Xo (fun t => decide (len t > 4000)) (by kernel_rfl) (by have := hl3 t hmem; omega) (fun m _ => c111 m _)).Q0 ?_
    exact hJ _ rfl
   rw [Qi _ (by omega) (by omega)]
   simp only [zz,Nat.reduceEqDiff]
   refine next2 _ _ hlt2 ⟨?_,rfl⟩
   rw [List.take_add_one,hg,List.any_append]
   simp [Bool.or_assoc]
  ·obtain rfl : j = q.length := by omega
   rw [List.take_length]
   simp only [hlt2,decide_false,zz,Nat.reduceEqDiff]
   refine Qu (fun hb => ?_) (fun hb => ?_)
   ·rw [hb] at hR
    exact Q2 hR
   ·rw [hb] at hR
    exact Q2 hR
end Go.Proofs.YtgghfcchanilpaaGreatDoor
