import Derived.Test.YtgghfcchanilpaaGreatDoorRfE
set_option linter.unusedVariables false
set_option linter.unusedSimpArgs false
namespace Go.Proofs.YtgghfcchanilpaaGreatDoor
open Go Go.Abs
theorem c84 {p q : Nat} {s : Str} {σ : St} {o : Nat} {e : Int} {a0 : Oz} {K X : PV → St → Prop} (hrd : Rf p s σ o e) (hl : s.length ≤ 1048576) (hpq : p ≠ q) (hq0 : σ[q]? = some (qB (Y3 a0 ++ [Qd,Qd,Qd,Qd,Qd,Qd])))
  (hK : ∀ (b : Kv) o' e',Run EA s o e o' e' b → K (.tuple []) (Qk p s (σ.set q (qB (Y3 a0 ++ TZ b))) o' e')) : Q0 W 84 [.ptr p 0 0 0,.ptr q 0 0 0] σ K X := by
 refine Xe (f := 84) ?_
 rw [C3]
 delta uy bF uF lF sF gF kF nI mF
 have hpB := hrd.lt
 have hqB : q < σ.length := (List.getElem?_eq_some_iff.1 hq0).1
 have h00 : Qk p s (σ.set q (qB ([Q1 (a0.maps.map QK),Q1 (a0.unions.map Qa),Q1 (a0.sigs.map Qw),Q1 (a0.routs.map Qx)] ++ Qd :: [Qd,Qd,Qd,Qd,Qd]))) o e <+: σ := by
  have hs : σ.set q (qB ([Q1 (a0.maps.map QK),Q1 (a0.unions.map Qa),Q1 (a0.sigs.map Qw),Q1 (a0.routs.map Qx)] ++ Qd :: [Qd,Qd,Qd,Qd,Qd])) = σ := Mg hq0
  rw [hs,Pt hrd.at_]
  exact List.prefix_rfl
 refine Mn hrd hl (fun n4 a4 b4 hn4 hz4 hon4 hra4 => ?_)
 try simp only [zz,Nat.reduceEqDiff]
 have hlS4 : (Qk p s σ a4 b4).length = σ.length := Zt _ _
 have hle4 := Vg h00
 have hq4 : (Qk p s σ a4 b4)[q]? = some (qB ([Q1 (a0.maps.map QK),Q1 (a0.unions.map Qa),Q1 (a0.sigs.map Qw),Q1 (a0.routs.map Qx)] ++ Qd :: [Qd,Qd,Qd,Qd,Qd])) := by rw [Zq (Ne.symm hpq)]; exact Vq hqB hpq h00
 have hqS4 : q < (Qk p s σ a4 b4).length := by omega
 refine Qr (fun x τ => ∃ (l : List (Xz)) (ox : Nat) (ex : Int) (v : PV),x 0 = .ptr p 0 0 0 ∧ x 1 = .ptr q 0 0 0 ∧ Grow σ.length 12 τ v (l.map QD) ∧ Qk p s (σ.set q (qB ([Q1 (a0.maps.map QK),Q1 (a0.unions.map Qa),Q1 (a0.sigs.map Qw),Q1 (a0.routs.map Qx)] ++ v :: [Qd,Qd,Qd,Qd,Qd]))) ox ex <+: τ ∧ Run (Xf Uf) s o e ox ex l ∧ Rf p s τ ox ex) (fun x τ4 hx => ?_) ?_
 rotate_left
 ·refine QT n4 (fun j x τ => ∃ (l : List (Xz)) (ox : Nat) (ex : Int) (v : PV),x = Qz [(0,.ptr p 0 0 0),(1,.ptr q 0 0 0),(4,.int .i64 n4),(5,.int .i64 j)] ∧ Acc Uf QD 12 p s ((Qk p s σ a4 b4).set q (qB ([Q1 (a0.maps.map QK),Q1 (a0.unions.map Qa),Q1 (a0.sigs.map Qw),Q1 (a0.routs.map Qx)] ++ v :: [Qd,Qd,Qd,Qd,Qd]))) a4 b4 j τ v ox ex l) ?_ ⟨[],a4,b4,Qd,rfl,Acc.begin hra4 hq4⟩
  rintro Φ j x τ hj ⟨l,ox,ex,v,rfl,hac⟩ next
  have hrB := Tm hra4 hpq (qB ([Q1 (a0.maps.map QK),Q1 (a0.unions.map Qa),Q1 (a0.sigs.map Qw),Q1 (a0.routs.map Qx)] ++ v :: [Qd,Qd,Qd,Qd,Qd]))
  have hr1 := hac.rf hrB
  have hqv := hac.atq hqS4 hpq
  have hv := Va (k := 4) (v := v) hqv rfl
  have hqv2 : ∀ oy ey,(Qk p s τ oy ey)[q]? = some (qB ([Q1 (a0.maps.map QK),Q1 (a0.unions.map Qa),Q1 (a0.sigs.map Qw),Q1 (a0.routs.map Qx)] ++ v :: [Qd,Qd,Qd,Qd,Qd])) := fun oy ey => by rw [Zq (Ne.symm hpq)]; exact hqv
  have hv2 : ∀ oy ey,Q4 false 1 (.ptr q 0 0 4) (Qk p s τ oy ey) = some v := fun oy ey => Va (hqv2 oy ey) rfl
  simp only [Xu,YH hr1.at_,zz,Nat.reduceEqDiff]
  refine XW (ex == 0) (fun _ J hJ => hJ _ rfl) ?_
  refine Qu (fun hb => ?_) (fun hb => ?_)
  ·obtain ⟨hlt,he⟩ := UH hb
   have y0 : ∀ (a : Int),Qv 1 (.agg [(.int .i64 0),(.int .i64 0),(.int .i64 0),(.int .i64 0),(.int .i64 0),(.int .i64 0),(.int .i64 0),(.int .i64 0),(.int .i64 0),(.int .i64 0),(.int .i64 0),(.int .i64 0)]) 0 (.int .i64 a) = some (.agg [(.int .i64 a),(.int .i64 0),(.int .i64 0),(.int .i64 0),(.int .i64 0),(.int .i64 0),(.int .i64 0),(.int .i64 0),(.int .i64 0),(.int .i64 0),(.int .i64 0),(.int .i64 0)]) := fun _ => rfl
   have y1 : ∀ (a : Int) (b : Za),Qv 3 (.agg [(.int .i64 a),(.int .i64 0),(.int .i64 0),(.int .i64 0),(.int .i64 0),(.int .i64 0),(.int .i64 0),(.int .i64 0),(.int .i64 0),(.int .i64 0),(.int .i64 0),(.int .i64 0)]) 1 (XX b) = some (.agg [(.int .i64 a),(.int .i64 b.k),(.int .i64 b.a),(.int .i64 b.b),(.int .i64 0),(.int .i64 0),(.int .i64 0),(.int .i64 0),(.int .i64 0),(.int .i64 0),(.int .i64 0),(.int .i64 0)]) := fun _ _ => rfl
   have y2 : ∀ (a : Int) (b : Za) (c : Za),Qv 3 (.agg [(.int .i64 a),(.int .i64 b.k),(.int .i64 b.a),(.int .i64 b.b),(.int .i64 0),(.int .i64 0),(.int .i64 0),(.int .i64 0),(.int .i64 0),(.int .i64 0),(.int .i64 0),(.int .i64 0)]) 4 (XX c) = some (.agg [(.int .i64 a),(.int .i64 b.k),(.int .i64 b.a),(.int .i64 b.b),(.int .i64 c.k),(.int .i64 c.a),(.int .i64 c.b),(.int .i64 0),(.int .i64 0),(.int .i64 0),(.int .i64 0),(.int .i64 0)]) := fun _ _ _ => rfl
   have y3 : ∀ (a : Int) (b : Za) (c : Za) (d : Za),Qv 3 (.agg [(.int .i64 a),(.int .i64 b.k),(.int .i64 b.a),(.int .i64 b.b),(.int .i64 c.k),(.int .i64 c.a),(.int .i64 c.b),(.int .i64 0),(.int .i64 0),(.int .i64 0),(.int .i64 0),(.int .i64 0)]) 7 (XX d) = some (.agg [(.int .i64 a),(.int .i64 b.k),(.int .i64 b.a),(.int .i64 b.b),(.int .i64 c.k),(.int .i64 c.a),(.int .i64 c.b),(.int .i64 d.k),(.int .i64 d.a),(.int .i64 d.b),(.int .i64 0),(.int .i64 0)]) := fun _ _ _ _ => rfl
   have y4 : ∀ (a : Int) (b : Za) (c : Za) (d : Za) (g : Int),Qv 1 (.agg [(.int .i64 a),(.int .i64 b.k),(.int .i64 b.a),(.int .i64 b.b),(.int .i64 c.k),(.int .i64 c.a),(.int .i64 c.b),(.int .i64 d.k),(.int .i64 d.a),(.int .i64 d.b),(.int .i64 0),(.int .i64 0)]) 10 (.int .i64 g) = some (.agg [(.int .i64 a),(.int .i64 b.k),(.int .i64 b.a),(.int .i64 b.b),(.int .i64 c.k),(.int .i64 c.a),(.int .i64 c.b),(.int .i64 d.k),(.int .i64 d.a),(.int .i64 d.b),(.int .i64 g),(.int .i64 0)]) := fun _ _ _ _ _ => rfl
   have y5 : ∀ (a : Int) (b : Za) (c : Za) (d : Za) (g : Int) (h : Int),Qv 1 (.agg [(.int .i64 a),(.int .i64 b.k),(.int .i64 b.a),(.int .i64 b.b),(.int .i64 c.k),(.int .i64 c.a),(.int .i64 c.b),(.int .i64 d.k),(.int .i64 d.a),(.int .i64 d.b),(.int .i64 g),(.int .i64 0)]) 11 (.int .i64 h) = some (QD ⟨a,b,c,d,g,h⟩) := fun _ _ _ _ _ _ => rfl
   have yp : ∀ r,Q6 true 12 (QD r) 0 = some (QD r) := fun _ => rfl
   have hb2 : ∀ a : Xz,QI 12 (List.replicate 1 (.agg [(.int .i64 0),(.int .i64 0),(.int .i64 0),(.int .i64 0),(.int .i64 0),(.int .i64 0),(.int .i64 0),(.int .i64 0),(.int .i64 0),(.int .i64 0),(.int .i64 0),(.int .i64 0)])) [(0,QD a)] = some [QD a] := fun a => Xs (x := QD a) ⟨_,rfl,rfl⟩
   refine VC.Q0 hr1 hl (fun a u0 w0 h0 hrc0 => ?_)
   try simp only [y0,zz,Nat.reduceEqDiff]
   refine A4.Xc hrc0 hl (fun b u1 w1 h1 hrc1 => ?_)
   try simp only [y1,zz,Nat.reduceEqDiff]
   refine A4.Xc hrc1 hl (fun c u2 w2 h2 hrc2 => ?_)
   try simp only [y2,zz,Nat.reduceEqDiff]
   refine A4.Xc hrc2 hl (fun d u3 w3 h3 hrc3 => ?_)
   try simp only [y3,zz,Nat.reduceEqDiff]
   refine c193.Xc hrc3 hl (fun g u4 w4 h4 hrc4 => ?_)
   try simp only [y4,zz,Nat.reduceEqDiff]
   refine VC.Xc hrc4 hl (fun h u5 w5 h5 hrc5 => ?_)
   have hrun : Run Uf s ox ex u5 w5 ⟨a,b,c,d,g,h⟩ := h0.bind (h1.bind (h2.bind (h3.bind (h4.bind (h5.bind (Run.ret hrc5 _))))))
   obtain ⟨v',τ1,τ2,x1,x2,hac'⟩ := hac.field (by_ := 96) (k := 4) (by omega) hrB hqS4 hpq rfl (by omega) (a := (⟨a,b,c,d,g,h⟩ : Xz)) ⟨_,rfl,rfl⟩ hrun
   simp only [y5,yp,hb2,hv2,x1,x2,Xu,zz,Nat.reduceEqDiff]
   rw [Qi _ (by omega) (by omega)]
   simp only [zz,Nat.reduceEqDiff]
   exact next _ _ hlt ⟨l ++ [_],u5,w5,v',rfl,hac'⟩
  ·have hx := Zm hb
   have hst := YM hpB hqB hpq h00 hac.pre
   have hg := Up (n0 := σ.length) hac.grow (by rw [List.length_set]; omega)
   have hrun := hn4.bind (hac.run.done hj hx)
   exact ⟨l,ox,ex,v,by trivial,by trivial,hg,hst,hrun,hr1⟩
 obtain ⟨l4,o4,e4,v4,qx0,qx1,gv4,st4,r4,hs4⟩ := hx
 simp only [qx0,qx1,zz,Nat.reduceEqDiff]
 clear qx0 qx1
 refine A6.Q0 hs4 hl (fun l5 o5 e5 r5 hr5 => ?_)
 have q5 := Vq hqB hpq st4
 have q5' : (Qk p s τ4 o5 e5)[q]? = some (qB ([Q1 (a0.maps.map QK),Q1 (a0.unions.map Qa),Q1 (a0.sigs.map Qw),Q1 (a0.routs.map Qx),v4] ++ Qd :: [Qd,Qd,Qd,Qd])) := by rw [Zq (Ne.symm hpq)]; exact q5
 have w5 := Nv (k := 5) (v' := Q1 (l5.map Qa)) q5' rfl (XC _)
 have st5 : Qk p s (σ.set q (qB ([Q1 (a0.maps.map QK),Q1 (a0.unions.map Qa),Q1 (a0.sigs.map Qw),Q1 (a0.routs.map Qx),v4] ++ Q1 (l5.map Qa) :: [Qd,Qd,Qd,Qd]))) o5 e5 <+: (Qk p s τ4 o5 e5).set q (qB ([Q1 (a0.maps.map QK),Q1 (a0.unions.map Qa),Q1 (a0.sigs.map Qw),Q1 (a0.routs.map Qx),v4] ++ Q1 (l5.map Qa) :: [Qd,Qd,Qd,Qd])) := UB hpB hqB hpq st4
 replace gv4 := P8 (s := s) (o1 := o5) (e1 := e5) (k' := qB ([Q1 (a0.maps.map QK),Q1 (a0.unions.map Qa),Q1 (a0.sigs.map Qw),Q1 (a0.routs.map Qx),v4] ++ Q1 (l5.map Qa) :: [Qd,Qd,Qd,Qd])) gv4 hpB hqB
 simp only [Xu,Nat.zero_add,w5,zz,Nat.reduceEqDiff]
 have hs5 := hr5.to (Mz hpB st5)
 generalize (Qk p s τ4 o5 e5).set q (qB ([Q1 (a0.maps.map QK),Q1 (a0.unions.map Qa),Q1 (a0.sigs.map Qw),Q1 (a0.routs.map Qx),v4] ++ Q1 (l5.map Qa) :: [Qd,Qd,Qd,Qd])) = τ5 at *
 refine A6.Q0 hs5 hl (fun l6 o6 e6 r6 hr6 => ?_)
 have q6 := Vq hqB hpq st5
 have q6' : (Qk p s τ5 o6 e6)[q]? = some (qB ([Q1 (a0.maps.map QK),Q1 (a0.unions.map Qa),Q1 (a0.sigs.map Qw),Q1 (a0.routs.map Qx),v4,Q1 (l5.map Qa)] ++ Qd :: [Qd,Qd,Qd])) := by rw [Zq (Ne.symm hpq)]; exact q6
 have w6 := Nv (k := 6) (v' := Q1 (l6.map Qa)) q6' rfl (XC _)
 have st6 : Qk p s (σ.set q (qB ([Q1 (a0.maps.map QK),Q1 (a0.unions.map Qa),Q1 (a0.sigs.map Qw),Q1 (a0.routs.map Qx),v4,Q1 (l5.map Qa)] ++ Q1 (l6.map Qa) :: [Qd,Qd,Qd]))) o6 e6 <+: (Qk p s τ5 o6 e6).set q (qB ([Q1 (a0.maps.map QK),Q1 (a0.unions.map Qa),Q1 (a0.sigs.map Qw),Q1 (a0.routs.map Qx),v4,Q1 (l5.map Qa)] ++ Q1 (l6.map Qa) :: [Qd,Qd,Qd])) := UB hpB hqB hpq st5
 replace gv4 := P8 (s := s) (o1 := o6) (e1 := e6) (k' := qB ([Q1 (a0.maps.map QK),Q1 (a0.unions.map Qa),Q1 (a0.sigs.map Qw),Q1 (a0.routs.map Qx),v4,Q1 (l5.map Qa)] ++ Q1 (l6.map Qa) :: [Qd,Qd,Qd])) gv4 hpB hqB
 simp only [Xu,Nat.zero_add,w6,zz,Nat.reduceEqDiff]
 have hs6 := hr6.to (Mz hpB st6)
 generalize (Qk p s τ5 o6 e6).set q (qB ([Q1 (a0.maps.map QK),Q1 (a0.unions.map Qa),Q1 (a0.sigs.map Qw),Q1 (a0.routs.map Qx),v4,Q1 (l5.map Qa)] ++ Q1 (l6.map Qa) :: [Qd,Qd,Qd])) = τ6 at *
 refine Mn hs6 hl (fun n7 a7 b7 hn7 hz7 hon7 hra7 => ?_)
 try simp only [zz,Nat.reduceEqDiff]
 have hlS7 : (Qk p s τ6 a7 b7).length = τ6.length := Zt _ _
 have hle7 := Vg st6
 have hq7 : (Qk p s τ6 a7 b7)[q]? = some (qB ([Q1 (a0.maps.map QK),Q1 (a0.unions.map Qa),Q1 (a0.sigs.map Qw),Q1 (a0.routs.map Qx),v4,Q1 (l5.map Qa),Q1 (l6.map Qa)] ++ Qd :: [Qd,Qd])) := by rw [Zq (Ne.symm hpq)]; exact Vq hqB hpq st6
 have hqS7 : q < (Qk p s τ6 a7 b7).length := by omega
 refine Qr (fun x τ => ∃ (l : List (Str)) (ox : Nat) (ex : Int) (v : PV),x 0 = .ptr p 0 0 0 ∧ x 1 = .ptr q 0 0 0 ∧ Grow σ.length 1 τ v (l.map PV.str) ∧ Qk p s (σ.set q (qB ([Q1 (a0.maps.map QK),Q1 (a0.unions.map Qa),Q1 (a0.sigs.map Qw),Q1 (a0.routs.map Qx),v4,Q1 (l5.map Qa),Q1 (l6.map Qa)] ++ v :: [Qd,Qd]))) ox ex <+: τ ∧ Run (Xf S0) s o6 e6 ox ex l ∧ Rf p s τ ox ex ∧ Grow σ.length 12 τ v4 (l4.map QD)) (fun x τ7 hx => ?_) ?_
 rotate_left
 ·refine QT n7 (fun j x τ => ∃ (l : List (Str)) (ox : Nat) (ex : Int) (v : PV),x = Qz [(0,.ptr p 0 0 0),(1,.ptr q 0 0 0),(4,.int .i64 n7),(7,.int .i64 j)] ∧ Acc S0 PV.str 1 p s ((Qk p s τ6 a7 b7).set q (qB ([Q1 (a0.maps.map QK),Q1 (a0.unions.map Qa),Q1 (a0.sigs.map Qw),Q1 (a0.routs.map Qx),v4,Q1 (l5.map Qa),Q1 (l6.map Qa)] ++ v :: [Qd,Qd]))) a7 b7 j τ v ox ex l) ?_ ⟨[],a7,b7,Qd,rfl,Acc.begin hra7 hq7⟩
  rintro Φ j x τ hj ⟨l,ox,ex,v,rfl,hac⟩ next
  have hrB := Tm hra7 hpq (qB ([Q1 (a0.maps.map QK),Q1 (a0.unions.map Qa),Q1 (a0.sigs.map Qw),Q1 (a0.routs.map Qx),v4,Q1 (l5.map Qa),Q1 (l6.map Qa)] ++ v :: [Qd,Qd]))
  have hr1 := hac.rf hrB
  have hqv := hac.atq hqS7 hpq
  have hv := Va (k := 7) (v := v) hqv rfl
  have hqv2 : ∀ oy ey,(Qk p s τ oy ey)[q]? = some (qB ([Q1 (a0.maps.map QK),Q1 (a0.unions.map Qa),Q1 (a0.sigs.map Qw),Q1 (a0.routs.map Qx),v4,Q1 (l5.map Qa),Q1 (l6.map Qa)] ++ v :: [Qd,Qd])) := fun oy ey => by rw [Zq (Ne.symm hpq)]; exact hqv
  have hv2 : ∀ oy ey,Q4 false 1 (.ptr q 0 0 7) (Qk p s τ oy ey) = some v := fun oy ey => Va (hqv2 oy ey) rfl
  simp only [Xu,YH hr1.at_,zz,Nat.reduceEqDiff]
  refine XW (ex == 0) (fun _ J hJ => hJ _ rfl) ?_
  refine Qu (fun hb => ?_) (fun hb => ?_)
  ·obtain ⟨hlt,he⟩ := UH hb
   have hb2 : ∀ a : Str,QI 1 (List.replicate 1 (.str [])) [(0,PV.str a)] = some [PV.str a] := fun a => Xs (x := PV.str a) ⟨_,rfl,rfl⟩
   refine ⟨?_,?_⟩
   ·simp only [Xu,hv,zz,Nat.reduceEqDiff]
    refine c194.Q0 hr1 hl (fun a oy ey h2 hr2 => ?_)
    obtain ⟨v',τ1,τ2,w1,w2,hac'⟩ := hac.field (by_ := 16) (k := 7) (by omega) hrB hqS7 hpq rfl (by omega) (a := a) ⟨_,rfl,rfl⟩ h2
    simp only [hb2,w1,w2,Xu,zz,Nat.reduceEqDiff]
    rw [Qi _ (by omega) (by omega)]
    simp only [zz,Nat.reduceEqDiff]
    exact next _ _ hlt ⟨l ++ [a],oy,ey,v',rfl,hac'⟩
   ·try simp only [Xu,zz,Nat.reduceEqDiff]
    refine c194.Q0 hr1 hl (fun a oy ey h2 hr2 => ?_)
    obtain ⟨v',τ1,τ2,w1,w2,hac'⟩ := hac.field (by_ := 16) (k := 7) (by omega) hrB hqS7 hpq rfl (by omega) (a := a) ⟨_,rfl,rfl⟩ h2
    simp only [hb2,hv2,w1,w2,Xu,zz,Nat.reduceEqDiff]
    rw [Qi _ (by omega) (by omega)]
    simp only [zz,Nat.reduceEqDiff]
    exact next _ _ hlt ⟨l ++ [a],oy,ey,v',rfl,hac'⟩
  ·have hx := Zm hb
   have hst := YM hpB hqB hpq st6 hac.pre
   have hg := Up (n0 := σ.length) hac.grow (by rw [List.length_set]; omega)
   have hrun := hn7.bind (hac.run.done hj hx)
   exact ⟨l,ox,ex,v,by trivial,by trivial,hg,hst,hrun,hr1,ZJ gv4 hpB hqB hpq hac.pre⟩
 obtain ⟨l7,o7,e7,v7,qx0,qx1,gv7,st7,r7,hs7,gv4⟩ := hx
 simp only [qx0,qx1,zz,Nat.reduceEqDiff]
 clear qx0 qx1
 refine Mn hs7 hl (fun n8 a8 b8 hn8 hz8 hon8 hra8 => ?_)
 try simp only [zz,Nat.reduceEqDiff]
 have hlS8 : (Qk p s τ7 a8 b8).length = τ7.length := Zt _ _
 have hle8 := Vg st7
 have hq8 : (Qk p s τ7 a8 b8)[q]? = some (qB ([Q1 (a0.maps.map QK),Q1 (a0.unions.map Qa),Q1 (a0.sigs.map Qw),Q1 (a0.routs.map Qx),v4,Q1 (l5.map Qa),Q1 (l6.map Qa),v7] ++ Qd :: [Qd])) := by rw [Zq (Ne.symm hpq)]; exact Vq hqB hpq st7
 have hqS8 : q < (Qk p s τ7 a8 b8).length := by omega
 refine Qr (fun x τ => ∃ (l : List (YW)) (ox : Nat) (ex : Int) (v : PV),x 0 = .ptr p 0 0 0 ∧ x 1 = .ptr q 0 0 0 ∧ Grow σ.length 3 τ v (l.map QY) ∧ Qk p s (σ.set q (qB ([Q1 (a0.maps.map QK),Q1 (a0.unions.map Qa),Q1 (a0.sigs.map Qw),Q1 (a0.routs.map Qx),v4,Q1 (l5.map Qa),Q1 (l6.map Qa),v7] ++ v :: [Qd]))) ox ex <+: τ ∧ Run (Xf Ux) s o7 e7 ox ex l ∧ Rf p s τ ox ex ∧ Grow σ.length 12 τ v4 (l4.map QD) ∧ Grow σ.length 1 τ v7 (l7.map PV.str)) (fun x τ8 hx => ?_) ?_
 rotate_left
 ·refine QT n8 (fun j x τ => ∃ (l : List (YW)) (ox : Nat) (ex : Int) (v : PV),x = Qz [(0,.ptr p 0 0 0),(1,.ptr q 0 0 0),(4,.int .i64 n8),(8,.int .i64 j)] ∧ Acc Ux QY 3 p s ((Qk p s τ7 a8 b8).set q (qB ([Q1 (a0.maps.map QK),Q1 (a0.unions.map Qa),Q1 (a0.sigs.map Qw),Q1 (a0.routs.map Qx),v4,Q1 (l5.map Qa),Q1 (l6.map Qa),v7] ++ v :: [Qd]))) a8 b8 j τ v ox ex l) ?_ ⟨[],a8,b8,Qd,rfl,Acc.begin hra8 hq8⟩
  rintro Φ j x τ hj ⟨l,ox,ex,v,rfl,hac⟩ next
  have hrB := Tm hra8 hpq (qB ([Q1 (a0.maps.map QK),Q1 (a0.unions.map Qa),Q1 (a0.sigs.map Qw),Q1 (a0.routs.map Qx),v4,Q1 (l5.map Qa),Q1 (l6.map Qa),v7] ++ v :: [Qd]))
  have hr1 := hac.rf hrB
  have hqv := hac.atq hqS8 hpq
  have hv := Va (k := 8) (v := v) hqv rfl
  have hqv2 : ∀ oy ey,(Qk p s τ oy ey)[q]? = some (qB ([Q1 (a0.maps.map QK),Q1 (a0.unions.map Qa),Q1 (a0.sigs.map Qw),Q1 (a0.routs.map Qx),v4,Q1 (l5.map Qa),Q1 (l6.map Qa),v7] ++ v :: [Qd])) := fun oy ey => by rw [Zq (Ne.symm hpq)]; exact hqv
  have hv2 : ∀ oy ey,Q4 false 1 (.ptr q 0 0 8) (Qk p s τ oy ey) = some v := fun oy ey => Va (hqv2 oy ey) rfl
  simp only [Xu,YH hr1.at_,zz,Nat.reduceEqDiff]
  refine XW (ex == 0) (fun _ J hJ => hJ _ rfl) ?_
  refine Qu (fun hb => ?_) (fun hb => ?_)
  ·obtain ⟨hlt,he⟩ := UH hb
   have y0 : ∀ (a : Str),Qv 1 (.agg [(.str []),(.bool false),(.int .i64 0)]) 0 (.str a) = some (.agg [(.str a),(.bool false),(.int .i64 0)]) := fun _ => rfl
   have y1 : ∀ (a : Str) (b : Bool),Qv 1 (.agg [(.str a),(.bool false),(.int .i64 0)]) 1 (.bool b) = some (.agg [(.str a),(.bool b),(.int .i64 0)]) := fun _ _ => rfl
   have y2 : ∀ (a : Str) (b : Bool) (c : Int),Qv 1 (.agg [(.str a),(.bool b),(.int .i64 0)]) 2 (.int .i64 c) = some (QY ⟨a,b,c⟩) := fun _ _ _ => rfl
   have yp : ∀ r,Q6 true 3 (QY r) 0 = some (QY r) := fun _ => rfl
   have hb2 : ∀ a : YW,QI 3 (List.replicate 1 (.agg [(.str []),(.bool false),(.int .i64 0)])) [(0,QY a)] = some [QY a] := fun a => Xs (x := QY a) ⟨_,rfl,rfl⟩
   refine c194.Q0 hr1 hl (fun a u0 w0 h0 hrc0 => ?_)
   try simp only [y0,zz,Nat.reduceEqDiff]
   refine vV.Xc hrc0 hl (fun b u1 w1 h1 hrc1 => ?_)
   try simp only [y1,zz,Nat.reduceEqDiff]
   refine VC.Xc hrc1 hl (fun c u2 w2 h2 hrc2 => ?_)
   have hrun : Run Ux s ox ex u2 w2 ⟨a,b,c⟩ := h0.bind (h1.bind (h2.bind (Run.ret hrc2 _)))
   obtain ⟨v',τ1,τ2,x1,x2,hac'⟩ := hac.field (by_ := 32) (k := 8) (by omega) hrB hqS8 hpq rfl (by omega) (a := (⟨a,b,c⟩ : YW)) ⟨_,rfl,rfl⟩ hrun
   simp only [y2,yp,hb2,hv2,x1,x2,Xu,zz,Nat.reduceEqDiff]
   rw [Qi _ (by omega) (by omega)]
   simp only [zz,Nat.reduceEqDiff]
   exact next _ _ hlt ⟨l ++ [_],u2,w2,v',rfl,hac'⟩
  ·have hx := Zm hb
   have hst := YM hpB hqB hpq st7 hac.pre
   have hg := Up (n0 := σ.length) hac.grow (by rw [List.length_set]; omega)
   have hrun := hn8.bind (hac.run.done hj hx)
   exact ⟨l,ox,ex,v,by trivial,by trivial,hg,hst,hrun,hr1,ZJ gv4 hpB hqB hpq hac.pre,ZJ gv7 hpB hqB hpq hac.pre⟩
 obtain ⟨l8,o8,e8,v8,qx0,qx1,gv8,st8,r8,hs8,gv4,gv7⟩ := hx
 simp only [qx0,qx1,zz,Nat.reduceEqDiff]
 clear qx0 qx1
 refine Mn hs8 hl (fun n9 a9 b9 hn9 hz9 hon9 hra9 => ?_)
 try simp only [zz,Nat.reduceEqDiff]
 have hlS9 : (Qk p s τ8 a9 b9).length = τ8.length := Zt _ _
 have hle9 := Vg st8
 have hq9 : (Qk p s τ8 a9 b9)[q]? = some (qB ([Q1 (a0.maps.map QK),Q1 (a0.unions.map Qa),Q1 (a0.sigs.map Qw),Q1 (a0.routs.map Qx),v4,Q1 (l5.map Qa),Q1 (l6.map Qa),v7,v8] ++ Qd :: [])) := by rw [Zq (Ne.symm hpq)]; exact Vq hqB hpq st8
 have hqS9 : q < (Qk p s τ8 a9 b9).length := by omega
 refine QT n9 (fun j x τ => ∃ (l : List (Int × Int)) (ox : Nat) (ex : Int) (v : PV),x = Qz [(0,.ptr p 0 0 0),(1,.ptr q 0 0 0),(4,.int .i64 n9),(10,.int .i64 j)] ∧ Acc PO Qw 2 p s ((Qk p s τ8 a9 b9).set q (qB ([Q1 (a0.maps.map QK),Q1 (a0.unions.map Qa),Q1 (a0.sigs.map Qw),Q1 (a0.routs.map Qx),v4,Q1 (l5.map Qa),Q1 (l6.map Qa),v7,v8] ++ v :: []))) a9 b9 j τ v ox ex l) ?_ ⟨[],a9,b9,Qd,rfl,Acc.begin hra9 hq9⟩
 rintro Φ j x τ hj ⟨l,ox,ex,v,rfl,hac⟩ next
 have hrB := Tm hra9 hpq (qB ([Q1 (a0.maps.map QK),Q1 (a0.unions.map Qa),Q1 (a0.sigs.map Qw),Q1 (a0.routs.map Qx),v4,Q1 (l5.map Qa),Q1 (l6.map Qa),v7,v8] ++ v :: []))
 have hr1 := hac.rf hrB
 have hqv := hac.atq hqS9 hpq
 have hv := Va (k := 9) (v := v) hqv rfl
 have hqv2 : ∀ oy ey,(Qk p s τ oy ey)[q]? = some (qB ([Q1 (a0.maps.map QK),Q1 (a0.unions.map Qa),Q1 (a0.sigs.map Qw),Q1 (a0.routs.map Qx),v4,Q1 (l5.map Qa),Q1 (l6.map Qa),v7,v8] ++ v :: [])) := fun oy ey => by rw [Zq (Ne.symm hpq)]; exact hqv
 have hv2 : ∀ oy ey,Q4 false 1 (.ptr q 0 0 9) (Qk p s τ oy ey) = some v := fun oy ey => Va (hqv2 oy ey) rfl
 simp only [Xu,YH hr1.at_,zz,Nat.reduceEqDiff]
 refine XW (ex == 0) (fun _ J hJ => hJ _ rfl) ?_
 refine Qu (fun hb => ?_) (fun hb => ?_)
 ·obtain ⟨hlt,he⟩ := UH hb
  have yb : ∀ a b : Int,QF [(.int .i64 0),(.int .i64 0)] [(0,1,(.int .i64 a)),(1,1,(.int .i64 b))] = some [(.int .i64 a),(.int .i64 b)] := fun _ _ => rfl
  have yp : ∀ a b : Int,QI 2 (List.replicate 1 (.agg [(.int .i64 0),(.int .i64 0)])) [(0,.agg [(.int .i64 a),(.int .i64 b)])] = some [Qw (a,b)] := fun a b => Xs (x := Qw (a,b)) ⟨_,rfl,rfl⟩
  refine VC.Q0 hr1 hl (fun a u0 w0 h0 hrc0 => ?_)
  try simp only [zz,Nat.reduceEqDiff]
  refine VC.Xc hrc0 hl (fun b u1 w1 h1 hrc1 => ?_)
  have hrun : Run PO s ox ex u1 w1 (a,b) := h0.bind (h1.bind (Run.ret hrc1 _))
  obtain ⟨v',τ1,τ2,x1,x2,hac'⟩ := hac.field (by_ := 16) (k := 9) (by omega) hrB hqS9 hpq rfl (by omega) (a := ((a,b) : Int × Int)) ⟨_,rfl,rfl⟩ hrun
  simp only [yb,yp,hv2,x1,x2,Xu,zz,Nat.reduceEqDiff]
  rw [Qi _ (by omega) (by omega)]
  simp only [zz,Nat.reduceEqDiff]
  exact next _ _ hlt ⟨l ++ [_],u1,w1,v',rfl,hac'⟩
 ·have hx := Zm hb
  have hst := YM hpB hqB hpq st8 hac.pre
  have hg := Up (n0 := σ.length) hac.grow (by rw [List.length_set]; omega)
  have hrun := hn9.bind (hac.run.done hj hx)
  replace gv4 := ZJ gv4 hpB hqB hpq hac.pre
  replace gv7 := ZJ gv7 hpB hqB hpq hac.pre
  replace gv8 := ZJ gv8 hpB hqB hpq hac.pre
  refine Z2 (v' := .tuple []) (fun c => σ.length ≤ c) (KW (ds := Y3 a0 ++ TZ ⟨l4,l5,l6,l7,l8,l⟩) hpB hqB hpq hst rfl fun i x y hx hy => ?_) (.base _ (.tuple _ fun i x hx => by cases hx)) (hK ⟨l4,l5,l6,l7,l8,l⟩ ox ex (r4.bind (r5.bind (r6.bind (r7.bind (r8.bind (hrun.bind (Run.ret hr1 _))))))))
  match i,hx,hy with
  | 0,hx,hy => cases hx; cases hy; exact .base _ ((Xv Pq _).free _)
  | 1,hx,hy => cases hx; cases hy; exact .base _ ((Xv V7 _).free _)
  | 2,hx,hy => cases hx; cases hy; exact .base _ ((Xv TJ _).free _)
  | 3,hx,hy => cases hx; cases hy; exact .base _ ((Xv TT _).free _)
  | 4,hx,hy => cases hx; cases hy; exact Zu gv4 (fun _ h => h) (fun y hy => by obtain ⟨a,_,rfl⟩ := List.mem_map.1 hy; exact O2 a)
  | 5,hx,hy => cases hx; cases hy; exact .base _ ((Xv V7 _).free _)
  | 6,hx,hy => cases hx; cases hy; exact .base _ ((Xv V7 _).free _)
  | 7,hx,hy => cases hx; cases hy; exact Zu gv7 (fun _ h => h) (fun y hy => by obtain ⟨a,_,rfl⟩ := List.mem_map.1 hy; exact (fun s => Flat.str s) a)
  | 8,hx,hy => cases hx; cases hy; exact Zu gv8 (fun _ h => h) (fun y hy => by obtain ⟨a,_,rfl⟩ := List.mem_map.1 hy; exact Oo a)
  | 9,hx,hy => cases hx; cases hy; exact Zu hg (fun _ h => h) (fun y hy => by obtain ⟨a,_,rfl⟩ := List.mem_map.1 hy; exact TJ a)
end Go.Proofs.YtgghfcchanilpaaGreatDoor
