import Derived.Test.YtgghfcchanilpaaGreatDoorRfD
set_option linter.unusedVariables false
set_option linter.unusedSimpArgs false
namespace Go.Proofs.YtgghfcchanilpaaGreatDoor
open Go Go.Abs
theorem c83 {p q : Nat} {s : Str} {σ : St} {o : Nat} {e : Int} {K X : PV → St → Prop} (hrd : Rf p s σ o e) (hl : s.length ≤ 1048576) (hpq : p ≠ q) (hq0 : σ[q]? = some (qB ZG))
  (hK : ∀ (a : Oz) o' e',Run IF s o e o' e' a → K (.tuple []) (Qk p s (σ.set q (qB (Y3 a ++ [Qd,Qd,Qd,Qd,Qd,Qd]))) o' e')) : Q0 W 83 [.ptr p 0 0 0,.ptr q 0 0 0] σ K X := by
 refine Xe (f := 83) ?_
 rw [Cl]
 delta xG bF lF sF gF kF nI nL mF
 have hpB := hrd.lt
 have hqB : q < σ.length := (List.getElem?_eq_some_iff.1 hq0).1
 have h00 : Qk p s (σ.set q (qB ([] ++ Qd :: [Qd,Qd,Qd,Qd,Qd,Qd,Qd,Qd,Qd]))) o e <+: σ := by
  have hs : σ.set q (qB ([] ++ Qd :: [Qd,Qd,Qd,Qd,Qd,Qd,Qd,Qd,Qd])) = σ := Mg hq0
  rw [hs,Pt hrd.at_]
  exact List.prefix_rfl
 refine Mn hrd hl (fun n0 a0 b0 hn0 hz0 hon0 hra0 => ?_)
 try simp only [zz,Nat.reduceEqDiff]
 have hlS0 : (Qk p s σ a0 b0).length = σ.length := Zt _ _
 have hle0 := Vg h00
 have hq0 : (Qk p s σ a0 b0)[q]? = some (qB ([] ++ Qd :: [Qd,Qd,Qd,Qd,Qd,Qd,Qd,Qd,Qd])) := by rw [Zq (Ne.symm hpq)]; exact Vq hqB hpq h00
 have hqS0 : q < (Qk p s σ a0 b0).length := by omega
 refine Qr (fun x τ => ∃ (l : List (List Xb)) (ox : Nat) (ex : Int) (v : PV),x 0 = .ptr p 0 0 0 ∧ x 1 = .ptr q 0 0 0 ∧ Grow σ.length 1 τ v (l.map QK) ∧ Qk p s (σ.set q (qB ([] ++ v :: [Qd,Qd,Qd,Qd,Qd,Qd,Qd,Qd,Qd]))) ox ex <+: τ ∧ Run (Xf MA) s o e ox ex l ∧ Rf p s τ ox ex) (fun x τ0 hx => ?_) ?_
 rotate_left
 ·refine QT n0 (fun j x τ => ∃ (l : List (List Xb)) (ox : Nat) (ex : Int) (v : PV),x = Qz [(0,.ptr p 0 0 0),(1,.ptr q 0 0 0),(4,.int .i64 n0),(5,.int .i64 j)] ∧ Acc MA QK 1 p s ((Qk p s σ a0 b0).set q (qB ([] ++ v :: [Qd,Qd,Qd,Qd,Qd,Qd,Qd,Qd,Qd]))) a0 b0 j τ v ox ex l) ?_ ⟨[],a0,b0,Qd,rfl,Acc.begin hra0 hq0⟩
  rintro Φ j x τ hj ⟨l,ox,ex,v,rfl,hac⟩ next
  have hrB := Tm hra0 hpq (qB ([] ++ v :: [Qd,Qd,Qd,Qd,Qd,Qd,Qd,Qd,Qd]))
  have hr1 := hac.rf hrB
  have hqv := hac.atq hqS0 hpq
  have hv := Va (k := 0) (v := v) hqv rfl
  have hqv2 : ∀ oy ey,(Qk p s τ oy ey)[q]? = some (qB ([] ++ v :: [Qd,Qd,Qd,Qd,Qd,Qd,Qd,Qd,Qd])) := fun oy ey => by rw [Zq (Ne.symm hpq)]; exact hqv
  have hv2 : ∀ oy ey,Q4 false 1 (.ptr q 0 0 0) (Qk p s τ oy ey) = some v := fun oy ey => Va (hqv2 oy ey) rfl
  simp only [Xu,YH hr1.at_,zz,Nat.reduceEqDiff]
  refine XW (ex == 0) (fun _ J hJ => hJ _ rfl) ?_
  refine Qu (fun hb => ?_) (fun hb => ?_)
  ·obtain ⟨hlt,he⟩ := UH hb
   have hb1 : ∀ l : List Xb,QF [(.list .nil [])] [(0,1,Q1 (l.map Qm))] = some [Q1 (l.map Qm)] := fun l => by obtain ⟨k,e⟩ := Ug (l.map Qm); rw [e]; rfl
   have hb2 : ∀ l : List Xb,QI 1 (List.replicate 1 (.agg [(.list .nil [])])) [(0,.agg [Q1 (l.map Qm)])] = some [QK l] := fun l => Xs (x := QK l) ⟨_,rfl,rfl⟩
   refine ⟨?_,?_⟩
   ·simp only [Xu,hv,zz,Nat.reduceEqDiff]
    refine zg.Q0 hr1 hl (fun a oy ey h2 hr2 => ?_)
    obtain ⟨v',τ1,τ2,w1,w2,hac'⟩ := hac.field (by_ := 24) (k := 0) (by omega) hrB hqS0 hpq rfl (by omega) (a := a) ⟨_,rfl,rfl⟩ h2
    simp only [hb1,hb2,w1,w2,Xu,zz,Nat.reduceEqDiff]
    rw [Qi _ (by omega) (by omega)]
    simp only [zz,Nat.reduceEqDiff]
    exact next _ _ hlt ⟨l ++ [a],oy,ey,v',rfl,hac'⟩
   ·try simp only [Xu,zz,Nat.reduceEqDiff]
    refine zg.Q0 hr1 hl (fun a oy ey h2 hr2 => ?_)
    obtain ⟨v',τ1,τ2,w1,w2,hac'⟩ := hac.field (by_ := 24) (k := 0) (by omega) hrB hqS0 hpq rfl (by omega) (a := a) ⟨_,rfl,rfl⟩ h2
    simp only [hb1,hb2,hv2,w1,w2,Xu,zz,Nat.reduceEqDiff]
    rw [Qi _ (by omega) (by omega)]
    simp only [zz,Nat.reduceEqDiff]
    exact next _ _ hlt ⟨l ++ [a],oy,ey,v',rfl,hac'⟩
  ·have hx := Zm hb
   have hst := YM hpB hqB hpq h00 hac.pre
   have hg := Up (n0 := σ.length) hac.grow (by rw [List.length_set]; omega)
   have hrun := hn0.bind (hac.run.done hj hx)
   exact ⟨l,ox,ex,v,by trivial,by trivial,hg,hst,hrun,hr1⟩
 obtain ⟨l0,o0,e0,v0,qx0,qx1,gv0,st0,r0,hs0⟩ := hx
 simp only [qx0,qx1,zz,Nat.reduceEqDiff]
 clear qx0 qx1
 refine A6.Q0 hs0 hl (fun l1 o1 e1 r1 hr1 => ?_)
 have q1 := Vq hqB hpq st0
 have q1' : (Qk p s τ0 o1 e1)[q]? = some (qB ([v0] ++ Qd :: [Qd,Qd,Qd,Qd,Qd,Qd,Qd,Qd])) := by rw [Zq (Ne.symm hpq)]; exact q1
 have w1 := Nv (k := 1) (v' := Q1 (l1.map Qa)) q1' rfl (XC _)
 have st1 : Qk p s (σ.set q (qB ([v0] ++ Q1 (l1.map Qa) :: [Qd,Qd,Qd,Qd,Qd,Qd,Qd,Qd]))) o1 e1 <+: (Qk p s τ0 o1 e1).set q (qB ([v0] ++ Q1 (l1.map Qa) :: [Qd,Qd,Qd,Qd,Qd,Qd,Qd,Qd])) := UB hpB hqB hpq st0
 replace gv0 := P8 (s := s) (o1 := o1) (e1 := e1) (k' := qB ([v0] ++ Q1 (l1.map Qa) :: [Qd,Qd,Qd,Qd,Qd,Qd,Qd,Qd])) gv0 hpB hqB
 simp only [Xu,Nat.zero_add,w1,zz,Nat.reduceEqDiff]
 have hs1 := hr1.to (Mz hpB st1)
 generalize (Qk p s τ0 o1 e1).set q (qB ([v0] ++ Q1 (l1.map Qa) :: [Qd,Qd,Qd,Qd,Qd,Qd,Qd,Qd])) = τ1 at *
 refine Mn hs1 hl (fun n2 a2 b2 hn2 hz2 hon2 hra2 => ?_)
 try simp only [zz,Nat.reduceEqDiff]
 have hlS2 : (Qk p s τ1 a2 b2).length = τ1.length := Zt _ _
 have hle2 := Vg st1
 have hq2 : (Qk p s τ1 a2 b2)[q]? = some (qB ([v0,Q1 (l1.map Qa)] ++ Qd :: [Qd,Qd,Qd,Qd,Qd,Qd,Qd])) := by rw [Zq (Ne.symm hpq)]; exact Vq hqB hpq st1
 have hqS2 : q < (Qk p s τ1 a2 b2).length := by omega
 refine Qr (fun x τ => ∃ (l : List (Int × Int)) (ox : Nat) (ex : Int) (v : PV),x 0 = .ptr p 0 0 0 ∧ x 1 = .ptr q 0 0 0 ∧ Grow σ.length 2 τ v (l.map Qw) ∧ Qk p s (σ.set q (qB ([v0,Q1 (l1.map Qa)] ++ v :: [Qd,Qd,Qd,Qd,Qd,Qd,Qd]))) ox ex <+: τ ∧ Run (Xf PO) s o1 e1 ox ex l ∧ Rf p s τ ox ex ∧ Grow σ.length 1 τ v0 (l0.map QK)) (fun x τ2 hx => ?_) ?_
 rotate_left
 ·refine QT n2 (fun j x τ => ∃ (l : List (Int × Int)) (ox : Nat) (ex : Int) (v : PV),x = Qz [(0,.ptr p 0 0 0),(1,.ptr q 0 0 0),(4,.int .i64 n2),(6,.int .i64 j)] ∧ Acc PO Qw 2 p s ((Qk p s τ1 a2 b2).set q (qB ([v0,Q1 (l1.map Qa)] ++ v :: [Qd,Qd,Qd,Qd,Qd,Qd,Qd]))) a2 b2 j τ v ox ex l) ?_ ⟨[],a2,b2,Qd,rfl,Acc.begin hra2 hq2⟩
  rintro Φ j x τ hj ⟨l,ox,ex,v,rfl,hac⟩ next
  have hrB := Tm hra2 hpq (qB ([v0,Q1 (l1.map Qa)] ++ v :: [Qd,Qd,Qd,Qd,Qd,Qd,Qd]))
  have hr1 := hac.rf hrB
  have hqv := hac.atq hqS2 hpq
  have hv := Va (k := 2) (v := v) hqv rfl
  have hqv2 : ∀ oy ey,(Qk p s τ oy ey)[q]? = some (qB ([v0,Q1 (l1.map Qa)] ++ v :: [Qd,Qd,Qd,Qd,Qd,Qd,Qd])) := fun oy ey => by rw [Zq (Ne.symm hpq)]; exact hqv
  have hv2 : ∀ oy ey,Q4 false 1 (.ptr q 0 0 2) (Qk p s τ oy ey) = some v := fun oy ey => Va (hqv2 oy ey) rfl
  simp only [Xu,YH hr1.at_,zz,Nat.reduceEqDiff]
  refine XW (ex == 0) (fun _ J hJ => hJ _ rfl) ?_
  refine Qu (fun hb => ?_) (fun hb => ?_)
  ·obtain ⟨hlt,he⟩ := UH hb
   have yb : ∀ a b : Int,QF [(.int .i64 0),(.int .i64 0)] [(0,1,(.int .i64 a)),(1,1,(.int .i64 b))] = some [(.int .i64 a),(.int .i64 b)] := fun _ _ => rfl
   have yp : ∀ a b : Int,QI 2 (List.replicate 1 (.agg [(.int .i64 0),(.int .i64 0)])) [(0,.agg [(.int .i64 a),(.int .i64 b)])] = some [Qw (a,b)] := fun a b => Xs (x := Qw (a,b)) ⟨_,rfl,rfl⟩
   refine VC.Q0 hr1 hl (fun a u0 w0 h0 hrc0 => ?_)
   try simp only [zz,Nat.reduceEqDiff]
   refine VC.Xc hrc0 hl (fun b u1 w1 h1 hrc1 => ?_)
   have hrun : Run PO s ox ex u1 w1 (a,b) := h0.bind (h1.bind (Run.ret hrc1 _))
   obtain ⟨v',τ1,τ2,x1,x2,hac'⟩ := hac.field (by_ := 16) (k := 2) (by omega) hrB hqS2 hpq rfl (by omega) (a := ((a,b) : Int × Int)) ⟨_,rfl,rfl⟩ hrun
   simp only [yb,yp,hv2,x1,x2,Xu,zz,Nat.reduceEqDiff]
   rw [Qi _ (by omega) (by omega)]
   simp only [zz,Nat.reduceEqDiff]
   exact next _ _ hlt ⟨l ++ [_],u1,w1,v',rfl,hac'⟩
  ·have hx := Zm hb
   have hst := YM hpB hqB hpq st1 hac.pre
   have hg := Up (n0 := σ.length) hac.grow (by rw [List.length_set]; omega)
   have hrun := hn2.bind (hac.run.done hj hx)
   exact ⟨l,ox,ex,v,by trivial,by trivial,hg,hst,hrun,hr1,ZJ gv0 hpB hqB hpq hac.pre⟩
 obtain ⟨l2,o2,e2,v2,qx0,qx1,gv2,st2,r2,hs2,gv0⟩ := hx
 simp only [qx0,qx1,zz,Nat.reduceEqDiff]
 clear qx0 qx1
 refine Mn hs2 hl (fun n3 a3 b3 hn3 hz3 hon3 hra3 => ?_)
 try simp only [zz,Nat.reduceEqDiff]
 have hlS3 : (Qk p s τ2 a3 b3).length = τ2.length := Zt _ _
 have hle3 := Vg st2
 have hq3 : (Qk p s τ2 a3 b3)[q]? = some (qB ([v0,Q1 (l1.map Qa),v2] ++ Qd :: [Qd,Qd,Qd,Qd,Qd,Qd])) := by rw [Zq (Ne.symm hpq)]; exact Vq hqB hpq st2
 have hqS3 : q < (Qk p s τ2 a3 b3).length := by omega
 refine QT n3 (fun j x τ => ∃ (l : List (YA)) (ox : Nat) (ex : Int) (v : PV),x = Qz [(0,.ptr p 0 0 0),(1,.ptr q 0 0 0),(4,.int .i64 n3),(9,.int .i64 j)] ∧ Acc TH Qx 9 p s ((Qk p s τ2 a3 b3).set q (qB ([v0,Q1 (l1.map Qa),v2] ++ v :: [Qd,Qd,Qd,Qd,Qd,Qd]))) a3 b3 j τ v ox ex l) ?_ ⟨[],a3,b3,Qd,rfl,Acc.begin hra3 hq3⟩
 rintro Φ j x τ hj ⟨l,ox,ex,v,rfl,hac⟩ next
 have hrB := Tm hra3 hpq (qB ([v0,Q1 (l1.map Qa),v2] ++ v :: [Qd,Qd,Qd,Qd,Qd,Qd]))
 have hr1 := hac.rf hrB
 have hqv := hac.atq hqS3 hpq
 have hv := Va (k := 3) (v := v) hqv rfl
 have hqv2 : ∀ oy ey,(Qk p s τ oy ey)[q]? = some (qB ([v0,Q1 (l1.map Qa),v2] ++ v :: [Qd,Qd,Qd,Qd,Qd,Qd])) := fun oy ey => by rw [Zq (Ne.symm hpq)]; exact hqv
 have hv2 : ∀ oy ey,Q4 false 1 (.ptr q 0 0 3) (Qk p s τ oy ey) = some v := fun oy ey => Va (hqv2 oy ey) rfl
 simp only [Xu,YH hr1.at_,zz,Nat.reduceEqDiff]
 refine XW (ex == 0) (fun _ J hJ => hJ _ rfl) ?_
 refine Qu (fun hb => ?_) (fun hb => ?_)
 ·obtain ⟨hlt,he⟩ := UH hb
  have hb2 : ∀ a : YA,QI 9 (List.replicate 1 (.agg [(.int .i64 0),(.int .i64 0),(.int .i64 0),(.int .i64 0),(.int .i64 0),(.int .i64 0),(.int .i64 0),(.int .i64 0),(.list .nil [])])) [(0,Qx a)] = some [Qx a] := fun a => Xs (x := Qx a) ⟨_,rfl,rfl⟩
  refine ⟨?_,?_⟩
  ·simp only [Xu,hv,zz,Nat.reduceEqDiff]
   refine wJ.Q0 hr1 hl (fun a oy ey h2 hr2 => ?_)
   obtain ⟨v',τ1,τ2,w1,w2,hac'⟩ := hac.field (by_ := 88) (k := 3) (by omega) hrB hqS3 hpq rfl (by omega) (a := a) ⟨_,rfl,rfl⟩ h2
   simp only [hb2,w1,w2,Xu,zz,Nat.reduceEqDiff]
   rw [Qi _ (by omega) (by omega)]
   simp only [zz,Nat.reduceEqDiff]
   exact next _ _ hlt ⟨l ++ [a],oy,ey,v',rfl,hac'⟩
  ·try simp only [Xu,zz,Nat.reduceEqDiff]
   refine wJ.Q0 hr1 hl (fun a oy ey h2 hr2 => ?_)
   obtain ⟨v',τ1,τ2,w1,w2,hac'⟩ := hac.field (by_ := 88) (k := 3) (by omega) hrB hqS3 hpq rfl (by omega) (a := a) ⟨_,rfl,rfl⟩ h2
   simp only [hb2,hv2,w1,w2,Xu,zz,Nat.reduceEqDiff]
   rw [Qi _ (by omega) (by omega)]
   simp only [zz,Nat.reduceEqDiff]
   exact next _ _ hlt ⟨l ++ [a],oy,ey,v',rfl,hac'⟩
 ·have hx := Zm hb
  have hst := YM hpB hqB hpq st2 hac.pre
  have hg := Up (n0 := σ.length) hac.grow (by rw [List.length_set]; omega)
  have hrun := hn3.bind (hac.run.done hj hx)
  replace gv0 := ZJ gv0 hpB hqB hpq hac.pre
  replace gv2 := ZJ gv2 hpB hqB hpq hac.pre
  refine Z2 (v' := .tuple []) (fun c => σ.length ≤ c) (KW (ds := Y3 ⟨l0,l1,l2,l⟩ ++ [Qd,Qd,Qd,Qd,Qd,Qd]) hpB hqB hpq hst rfl fun i x y hx hy => ?_) (.base _ (.tuple _ fun i x hx => by cases hx)) (hK ⟨l0,l1,l2,l⟩ ox ex (r0.bind (r1.bind (r2.bind (hrun.bind (Run.ret hr1 _))))))
  match i,hx,hy with
  | 0,hx,hy => cases hx; cases hy; exact Zu gv0 (fun _ h => h) (fun y hy => by obtain ⟨a,_,rfl⟩ := List.mem_map.1 hy; exact Pq a)
  | 1,hx,hy => cases hx; cases hy; exact .base _ ((Xv V7 _).free _)
  | 2,hx,hy => cases hx; cases hy; exact Zu gv2 (fun _ h => h) (fun y hy => by obtain ⟨a,_,rfl⟩ := List.mem_map.1 hy; exact TJ a)
  | 3,hx,hy => cases hx; cases hy; exact Zu hg (fun _ h => h) (fun y hy => by obtain ⟨a,_,rfl⟩ := List.mem_map.1 hy; exact TT a)
  | 4,hx,hy => cases hx; cases hy; exact .list _ _ _ rfl (by simp)
  | 5,hx,hy => cases hx; cases hy; exact .list _ _ _ rfl (by simp)
  | 6,hx,hy => cases hx; cases hy; exact .list _ _ _ rfl (by simp)
  | 7,hx,hy => cases hx; cases hy; exact .list _ _ _ rfl (by simp)
  | 8,hx,hy => cases hx; cases hy; exact .list _ _ _ rfl (by simp)
  | 9,hx,hy => cases hx; cases hy; exact .list _ _ _ rfl (by simp)
end Go.Proofs.YtgghfcchanilpaaGreatDoor
