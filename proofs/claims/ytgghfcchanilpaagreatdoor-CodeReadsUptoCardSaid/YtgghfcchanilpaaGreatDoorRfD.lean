import Derived.Test.YtgghfcchanilpaaGreatDoorRfB
set_option linter.unusedVariables false
set_option linter.unusedSimpArgs false
namespace Go.Proofs.YtgghfcchanilpaaGreatDoor
open Go Go.Abs
theorem L1 {n0 sz : Nat} {σ : St} {v : PV} {ys : List PV} (h : Grow n0 sz σ v ys) : v.cells? = some [v] := by
 rcases h with ⟨rfl,rfl⟩ | ⟨b,g,-,rfl,-,-⟩ <;> rfl
theorem wJ {p : Nat} : VT 191 [.ptr p 0 0 0] p TH Qx := Vz fun s σ o e R hrd hl hok => by
 rw [EO]
 delta CX bF pF uF gF kF nI nL mF wvR
 have z0 : ∀ a : Int,Qv 1 (.agg [(.int .i64 0),(.int .i64 0),(.int .i64 0),(.int .i64 0),(.int .i64 0),(.int .i64 0),(.int .i64 0),(.int .i64 0),(.list .nil [])]) 0 (.int .i64 a) = some (.agg [(.int .i64 a),(.int .i64 0),(.int .i64 0),(.int .i64 0),(.int .i64 0),(.int .i64 0),(.int .i64 0),(.int .i64 0),(.list .nil [])]) := fun _ => rfl
 have z1 : ∀ a b : Int,Qv 1 (.agg [(.int .i64 a),(.int .i64 0),(.int .i64 0),(.int .i64 0),(.int .i64 0),(.int .i64 0),(.int .i64 0),(.int .i64 0),(.list .nil [])]) 1 (.int .i64 b) = some (.agg [(.int .i64 a),(.int .i64 b),(.int .i64 0),(.int .i64 0),(.int .i64 0),(.int .i64 0),(.int .i64 0),(.int .i64 0),(.list .nil [])]) := fun _ _ => rfl
 have z2 : ∀ a b c : Int,Qv 1 (.agg [(.int .i64 a),(.int .i64 b),(.int .i64 0),(.int .i64 0),(.int .i64 0),(.int .i64 0),(.int .i64 0),(.int .i64 0),(.list .nil [])]) 2 (.int .i64 c) = some (.agg [(.int .i64 a),(.int .i64 b),(.int .i64 c),(.int .i64 0),(.int .i64 0),(.int .i64 0),(.int .i64 0),(.int .i64 0),(.list .nil [])]) := fun _ _ _ => rfl
 have z3 : ∀ a b c d : Int,Qv 1 (.agg [(.int .i64 a),(.int .i64 b),(.int .i64 c),(.int .i64 0),(.int .i64 0),(.int .i64 0),(.int .i64 0),(.int .i64 0),(.list .nil [])]) 3 (.int .i64 d) = some (.agg [(.int .i64 a),(.int .i64 b),(.int .i64 c),(.int .i64 d),(.int .i64 0),(.int .i64 0),(.int .i64 0),(.int .i64 0),(.list .nil [])]) := fun _ _ _ _ => rfl
 have z4 : ∀ a b c d f : Int,Qv 1 (.agg [(.int .i64 a),(.int .i64 b),(.int .i64 c),(.int .i64 d),(.int .i64 0),(.int .i64 0),(.int .i64 0),(.int .i64 0),(.list .nil [])]) 4 (.int .i64 f) = some (.agg [(.int .i64 a),(.int .i64 b),(.int .i64 c),(.int .i64 d),(.int .i64 f),(.int .i64 0),(.int .i64 0),(.int .i64 0),(.list .nil [])]) := fun _ _ _ _ _ => rfl
 have z5 : ∀ a b c d f g : Int,Qv 1 (.agg [(.int .i64 a),(.int .i64 b),(.int .i64 c),(.int .i64 d),(.int .i64 f),(.int .i64 0),(.int .i64 0),(.int .i64 0),(.list .nil [])]) 5 (.int .i64 g) = some (.agg [(.int .i64 a),(.int .i64 b),(.int .i64 c),(.int .i64 d),(.int .i64 f),(.int .i64 g),(.int .i64 0),(.int .i64 0),(.list .nil [])]) := fun _ _ _ _ _ _ => rfl
 have z6 : ∀ a b c d f g h : Int,Qv 1 (.agg [(.int .i64 a),(.int .i64 b),(.int .i64 c),(.int .i64 d),(.int .i64 f),(.int .i64 g),(.int .i64 0),(.int .i64 0),(.list .nil [])]) 6 (.int .i64 h) = some (.agg [(.int .i64 a),(.int .i64 b),(.int .i64 c),(.int .i64 d),(.int .i64 f),(.int .i64 g),(.int .i64 h),(.int .i64 0),(.list .nil [])]) := fun _ _ _ _ _ _ _ => rfl
 have z7 : ∀ a b c d f g h i : Int,Qv 1 (.agg [(.int .i64 a),(.int .i64 b),(.int .i64 c),(.int .i64 d),(.int .i64 f),(.int .i64 g),(.int .i64 h),(.int .i64 0),(.list .nil [])]) 7 (.int .i64 i) = some (.agg [(.int .i64 a),(.int .i64 b),(.int .i64 c),(.int .i64 d),(.int .i64 f),(.int .i64 g),(.int .i64 h),(.int .i64 i),(.list .nil [])]) := fun _ _ _ _ _ _ _ _ => rfl
 refine VC.Q0 hrd hl (fun a o0 e0 h0 hr0 => ?_)
 simp only [z0,zz,Nat.reduceEqDiff]
 refine VC.Xc hr0 hl (fun b o1 e1 h1 hr1 => ?_)
 simp only [z1,zz,Nat.reduceEqDiff]
 refine VC.Xc hr1 hl (fun c o2 e2 h2 hr2 => ?_)
 simp only [z2,zz,Nat.reduceEqDiff]
 refine VC.Xc hr2 hl (fun d o3 e3 h3 hr3 => ?_)
 simp only [z3,zz,Nat.reduceEqDiff]
 refine VC.Xc hr3 hl (fun f o4 e4 h4 hr4 => ?_)
 simp only [z4,zz,Nat.reduceEqDiff]
 refine VC.Xc hr4 hl (fun g o5 e5 h5 hr5 => ?_)
 simp only [z5,zz,Nat.reduceEqDiff]
 refine VC.Xc hr5 hl (fun h o6 e6 h6 hr6 => ?_)
 simp only [z6,zz,Nat.reduceEqDiff]
 refine VC.Xc hr6 hl (fun i o7 e7 h7 hr7 => ?_)
 simp only [z7,zz,Nat.reduceEqDiff]
 refine Mn hr7 hl (fun n o8 e8 h8 hn0 hon hr8 => ?_)
 rw [Yp] at hr8 ⊢
 have hl0 := Zt (p := p) (s := s) (σ := σ) o8 e8
 refine Qr (fun x τ => ∃ (l : List Yq) (o1 : Nat) (e1 : Int) (v : PV),x 2 = .agg [(.int .i64 0),(.int .i64 0),(.int .i64 0),(.int .i64 0),(.int .i64 0),(.int .i64 0),(.int .i64 0),(.int .i64 0),(.list .nil [])] ∧ x 3 = .agg [(.int .i64 a),(.int .i64 b),(.int .i64 c),(.int .i64 d),(.int .i64 f),(.int .i64 g),(.int .i64 h),(.int .i64 i),(v)] ∧ Acc Vp X7 3 p s (Qk p s σ o8 e8) o8 e8 l.length τ v o1 e1 l ∧ Run (XJ Vp n) s o8 e8 o1 e1 l) (fun x τ hx => ?_) ?_
 ·obtain ⟨l,o1,e1,v,q2,q3,hac,hrun⟩ := hx
  have hpre := hac.pre
  rw [Yp] at hpre
  have hg := hac.grow
  rw [hl0] at hg
  have hp1 : Q6 true 9 (.agg [(.int .i64 a),(.int .i64 b),(.int .i64 c),(.int .i64 d),(.int .i64 f),(.int .i64 g),(.int .i64 h),(.int .i64 i),(v)]) 0 = some (.agg [(.int .i64 a),(.int .i64 b),(.int .i64 c),(.int .i64 d),(.int .i64 f),(.int .i64 g),(.int .i64 h),(.int .i64 i),(v)]) := rfl
  have hp2 : Qv 9 (.agg [(.int .i64 0),(.int .i64 0),(.int .i64 0),(.int .i64 0),(.int .i64 0),(.int .i64 0),(.int .i64 0),(.int .i64 0),(.list .nil [])]) 0 (.agg [(.int .i64 a),(.int .i64 b),(.int .i64 c),(.int .i64 d),(.int .i64 f),(.int .i64 g),(.int .i64 h),(.int .i64 i),(v)]) = some (.agg [(.int .i64 a),(.int .i64 b),(.int .i64 c),(.int .i64 d),(.int .i64 f),(.int .i64 g),(.int .i64 h),(.int .i64 i),(v)]) := VG rfl rfl
  simp only [q2,q3,hp1,hp2,zz,Nat.reduceEqDiff]
  have hr9 := hr8.run hrun
  rw [Yp] at hr9
  refine Z2 (v' := Qx ⟨a,b,c,d,f,g,h,i,l⟩) (fun c => σ.length ≤ c) (K2 hrd.lt hpre) ?_ (hok _ o1 e1 (h0.bind (h1.bind (h2.bind (h3.bind (h4.bind (h5.bind (h6.bind (h7.bind ((h8.bind hrun).bind (Run.ret hr9 _)))))))))))
  refine .agg _ _ rfl fun i x y hx hy => ?_
  match i,hx,hy with
  | 0,hx,hy => cases hx; cases hy; exact .base _ (.int _ _)
  | 1,hx,hy => cases hx; cases hy; exact .base _ (.int _ _)
  | 2,hx,hy => cases hx; cases hy; exact .base _ (.int _ _)
  | 3,hx,hy => cases hx; cases hy; exact .base _ (.int _ _)
  | 4,hx,hy => cases hx; cases hy; exact .base _ (.int _ _)
  | 5,hx,hy => cases hx; cases hy; exact .base _ (.int _ _)
  | 6,hx,hy => cases hx; cases hy; exact .base _ (.int _ _)
  | 7,hx,hy => cases hx; cases hy; exact .base _ (.int _ _)
  | 8,hx,hy =>
   cases hx
   cases hy
   refine Zu hg (fun _ h => h) fun y hy => ?_
   obtain ⟨a,_,rfl⟩ := List.mem_map.1 hy
   exact OF a
 refine QT n (fun j x τ => ∃ (l : List Yq) (o1 : Nat) (e1 : Int) (v : PV),x = Qz [(0,.ptr p 0 0 0),(4,.int .i64 n),(5,.int .i64 j),(2,.agg [(.int .i64 0),(.int .i64 0),(.int .i64 0),(.int .i64 0),(.int .i64 0),(.int .i64 0),(.int .i64 0),(.int .i64 0),(.list .nil [])]),(3,.agg [(.int .i64 a),(.int .i64 b),(.int .i64 c),(.int .i64 d),(.int .i64 f),(.int .i64 g),(.int .i64 h),(.int .i64 i),(v)])] ∧ Acc Vp X7 3 p s (Qk p s σ o8 e8) o8 e8 j τ v o1 e1 l) ?_ ⟨[],o8,e8,.list .nil [],rfl,Acc.start hr8⟩
 rintro Φ j x τ hj ⟨l,o1,e1,v,rfl,hac⟩ next
 have hr1 := hac.rf hr8
 simp only [Xu,Vw,Nat.zero_add,YH hr1.at_,zz,Nat.reduceEqDiff]
 refine XW (e1 == 0) (fun _ J hJ => hJ _ rfl) ?_
 refine Qu (fun hb => ?_) (fun hb => ?_)
 ·obtain ⟨hlt,he⟩ := UH hb
  have y1 : ∀ u : Int,Qv 1 (.agg [(.int .i64 0),(.int .i64 0),(.int .i64 0)]) 0 (.int .i64 u) = some (.agg [(.int .i64 u),(.int .i64 0),(.int .i64 0)]) := fun _ => rfl
  have y2 : ∀ u w : Int,Qv 1 (.agg [(.int .i64 u),(.int .i64 0),(.int .i64 0)]) 1 (.int .i64 w) = some (.agg [(.int .i64 u),(.int .i64 w),(.int .i64 0)]) := fun _ _ => rfl
  have y3 : ∀ u w y : Int,Qv 1 (.agg [(.int .i64 u),(.int .i64 w),(.int .i64 0)]) 2 (.int .i64 y) = some (X7 ⟨u,w,y⟩) := fun _ _ _ => rfl
  have y4 : ∀ r,Q6 true 3 (X7 r) 0 = some (X7 r) := fun _ => rfl
  refine VC.Q0 hr1 hl (fun u o2 e2 k2 hr2 => ?_)
  simp only [y1,zz,Nat.reduceEqDiff]
  refine VC.Xc hr2 hl (fun w o3 e3 k3 hr3 => ?_)
  simp only [y2,zz,Nat.reduceEqDiff]
  refine VC.Xc hr3 hl (fun y o4 e4 k4 hr4 => ?_)
  have hrun : Run Vp s o1 e1 o4 e4 ⟨u,w,y⟩ := k2.bind (k3.bind (k4.bind (Run.ret hr4 _)))
  obtain ⟨v',τ',e7,hac'⟩ := hac.step (by_ := 24) (by omega) hr8 (by omega) (a := (⟨u,w,y⟩ : Yq)) ⟨_,rfl,rfl⟩ hrun
  have hput : Qv 1 (.agg [(.int .i64 a),(.int .i64 b),(.int .i64 c),(.int .i64 d),(.int .i64 f),(.int .i64 g),(.int .i64 h),(.int .i64 i),(v)]) 8 v' = some (.agg [(.int .i64 a),(.int .i64 b),(.int .i64 c),(.int .i64 d),(.int .i64 f),(.int .i64 g),(.int .i64 h),(.int .i64 i),(v')]) := Ni (L := [.int .i64 a,.int .i64 b,.int .i64 c,.int .i64 d,.int .i64 f,.int .i64 g,.int .i64 h,.int .i64 i]) (R := []) rfl (L1 hac'.grow)
  simp only [y3,y4,Xs (z := .agg [(.int .i64 0),(.int .i64 0),(.int .i64 0)]) (show Ul 3 (X7 ⟨u,w,y⟩) from ⟨_,rfl,rfl⟩),e7,hput,zz,Nat.reduceEqDiff]
  rw [Qi _ (by omega) (by omega)]
  simp only [zz,Nat.reduceEqDiff]
  exact next _ _ hlt ⟨l ++ [_],o4,e4,v',rfl,hac'⟩
 ·have hx := Zm hb
  exact ⟨l,o1,e1,v,by trivial,by trivial,by rw [hac.len]; exact hac,hac.run.done hj hx⟩
end Go.Proofs.YtgghfcchanilpaaGreatDoor
namespace Go.Proofs.YtgghfcchanilpaaGreatDoor
open Go Go.Abs
def qB (cs : List PV) : Blk := .arr 0 10 [.agg cs]
section
variable {p q : Nat} {s : Str} {σ τ : St} {o o1 o2 : Nat} {e e1 e2 : Int}
theorem Va {cs : List PV} {k : Nat} {v : PV} (h : τ[q]? = some (qB cs)) (hk : cs[k]? = some v) : Q4 false 1 (.ptr q 0 0 k) τ = some v := by simp [Q4,h,qB,Q6,PV.cells?,hk]
theorem Nv {L R : List PV} {k : Nat} {v v' : PV} (h : τ[q]? = some (qB (L ++ v :: R))) (hL : L.length = k) (hv : v'.cells? = some [v']) : QQ 1 (.ptr q 0 0 k) v' τ = some (τ.set q (qB (L ++ v' :: R))) := by
 simp [QQ,h,qB,Ni hL hv]
theorem ME {A B : St} (h : A <+: B) {i : Nat} (hi : i < A.length) (k : Blk) : A.set i k <+: B.set i k := by
 obtain ⟨t,rfl⟩ := h
 exact ⟨t,by rw [List.set_append_left _ _ hi]⟩
theorem Pp (hpq : p ≠ q) (k : Blk) : Qk p s (σ.set q k) o e = (Qk p s σ o e).set q k := by
 unfold Qk
 rw [List.set_comm _ _ (Ne.symm hpq)]
theorem G3 {n0 sz : Nat} {v : PV} {ys : List PV} {k : Blk} (h : Grow n0 sz σ v ys) (hp : p < n0) (hq : q < n0) (hpre : Qk p s (σ.set q k) o e <+: τ) : Grow n0 sz τ v ys := by
 rcases h with ⟨rfl,rfl⟩ | ⟨c,gg,hc,rfl,hb,hne⟩
 ·exact .inl ⟨rfl,rfl⟩
 ·refine .inr ⟨c,gg,hc,rfl,XI hpre ?_,hne⟩
  rw [Zq (by omega),List.getElem?_set_ne (by omega)]
  exact hb
theorem Up {n0 n1 sz : Nat} {v : PV} {ys : List PV} (h : Grow n1 sz τ v ys) (hn : n0 ≤ n1) : Grow n0 sz τ v ys := by
 rcases h with ⟨rfl,rfl⟩ | ⟨c,gg,hc,rfl,hb,hne⟩
 ·exact .inl ⟨rfl,rfl⟩
 ·exact .inr ⟨c,gg,by omega,rfl,hb,hne⟩
theorem D2 {n0 sz : Nat} {v : PV} {ys : List PV} {k : Blk} (h : Grow n0 sz τ v ys) (hq : q < n0) : Grow n0 sz (τ.set q k) v ys := by
 rcases h with ⟨rfl,rfl⟩ | ⟨c,gg,hc,rfl,hb,hne⟩
 ·exact .inl ⟨rfl,rfl⟩
 ·refine .inr ⟨c,gg,hc,rfl,?_,hne⟩
  rw [List.getElem?_set_ne (by omega)]
  exact hb
variable {α : Type} {pa : Pa α} {enc : α → PV} {sz j : Nat} {v : PV} {l : List α} {L R : List PV} {k : Nat}
theorem Acc.atq {b : Blk} (h : Acc pa enc sz p s (σ.set q b) o e j τ v o1 e1 l) (hq : q < σ.length) (hpq : p ≠ q) : τ[q]? = some b :=
 XI h.pre (by rw [Zq (Ne.symm hpq)]; simp [hq])
theorem Acc.field {by_ : Nat} (hby : by_ ≤ 96) (h : Acc pa enc sz p s (σ.set q (qB (L ++ v :: R))) o e j τ v o1 e1 l) (hr : Rf p s (σ.set q (qB (L ++ v :: R))) o e) (hq : q < σ.length) (hpq : p ≠ q) (hL : L.length = k) (hj : j ≤ 1048576) {a : α} (hsz : Ul sz (enc a)) (run : Run pa s o1 e1 o2 e2 a) :
  ∃ v' τ1 τ2,QM sz by_ v (.list .full [enc a]) (Qk p s τ o2 e2) = some (v',τ1) ∧ QQ 1 (.ptr q 0 0 k) v' τ1 = some τ2 ∧ Acc pa enc sz p s (σ.set q (qB (L ++ v' :: R))) o e (j + 1) τ2 v' o2 e2 (l ++ [a]) := by
 obtain ⟨v',τ1,h1,h2⟩ := h.step hby hr hj hsz run
 have hq1 := h2.atq hq hpq
 refine ⟨v',τ1,_,h1,Nv hq1 hL (L1 h2.grow),h2.len,?_,?_,h2.run⟩
 ·have hl : q < (Qk p s (σ.set q (qB (L ++ v :: R))) o2 e2).length := by rw [Zt]; simpa using hq
  have := ME h2.pre hl (qB (L ++ v' :: R))
  rw [← Pp hpq,List.set_set] at this
  exact this
 ·have := h2.grow
  simp only [List.length_set] at this ⊢
  exact D2 this hq
theorem Tm (hr : Rf p s σ o e) (hpq : p ≠ q) (k : Blk) : Rf p s (σ.set q k) o e := ⟨by rw [List.getElem?_set_ne (Ne.symm hpq)]; exact hr.at_,hr.le,hr.err⟩
theorem Mg {k : Blk} (h : σ[q]? = some k) : σ.set q k = σ := by
 apply List.ext_getElem?
 intro i
 rw [List.getElem?_set]
 split
 ·rename_i hi
  subst hi
  rw [if_pos (List.getElem?_eq_some_iff.1 h).1,h]
 ·rfl
theorem Acc.begin (hr : Rf p s τ o e) (hq : τ[q]? = some (qB (L ++ .list .nil [] :: R))) : Acc pa enc sz p s (τ.set q (qB (L ++ .list .nil [] :: R))) o e 0 τ (.list .nil []) o e [] := by
 rw [Mg hq]
 exact Acc.start hr
theorem KW (hp : p < σ.length) (hq : q < σ.length) (hpq : p ≠ q) {cs ds : List PV} (h : Qk p s (σ.set q (qB cs)) o e <+: τ) (hl : ds.length = cs.length) (hf : ∀ (i : Nat) (x y : PV),cs[i]? = some x → ds[i]? = some y → VE τ (fun c => σ.length ≤ c) x y) : I0 σ (fun c => σ.length ≤ c) τ (Qk p s (σ.set q (qB ds)) o e) := by
 have hle := h.length_le
 simp only [Zt,List.length_set] at hle
 refine ⟨fun c hc => hc,by simpa [Zt] using hle,fun c hc _ => by simpa [Zt] using hc,fun c k hk => .inr ⟨?_,?_⟩⟩
 ·have := (List.getElem?_eq_some_iff.1 hk).1
  simp only [Zt,List.length_set] at this
  omega
 ·by_cases hcp : c = p
  ·subst hcp
   rw [Sa (by simpa using hp)] at hk
   cases hk
   refine ⟨_,XI h (Sa (by simpa using hp) _ _),.inl (.inr ⟨_,rfl,rfl,fun i x y hx hy => ?_⟩)⟩
   rw [hx] at hy
   cases hy
   cases i with
   | zero =>
    cases hx
    refine .base _ (.agg _ fun i x hx => ?_)
    match i,hx with
    | 0,hx => cases hx; exact .str _
    | 1,hx => cases hx; exact .int _ _
    | 2,hx => cases hx; exact .int _ _
   | succ i => simp at hx
  ·rw [Zq hcp] at hk
   by_cases hcq : c = q
   ·subst hcq
    have hk' : (σ.set c (qB ds))[c]? = some (qB ds) := by simp [hq]
    rw [hk'] at hk
    cases hk
    refine ⟨qB cs,XI h (by rw [Zq hcp]; simp [hq]),.inl (.inr ⟨_,rfl,rfl,fun i x y hx hy => ?_⟩)⟩
    cases i with
    | zero =>
     cases hx
     cases hy
     exact .agg _ _ hl hf
    | succ i => simp at hx
   ·rw [List.getElem?_set_ne (Ne.symm hcq)] at hk
    refine ⟨k,XI h ?_,.inr ⟨rfl,hk⟩⟩
    rw [Zq hcp,List.getElem?_set_ne (Ne.symm hcq)]
    exact hk
end
section
variable {p q : Nat} {s : Str} {σ τ τ1 : St} {o o0 o1 : Nat} {e e0 e1 : Int} {k k' : Blk}
theorem Rf.to {σ' : St} (h : Rf p s σ' o e) (hat : τ[p]? = some (Yx s o e)) : Rf p s τ o e := ⟨hat,h.le,h.err⟩
theorem Mz (hp : p < σ.length) (h : Qk p s (σ.set q k) o e <+: τ) : τ[p]? = some (Yx s o e) := XI h (Sa (by simpa using hp) _ _)
theorem Vq (hq : q < σ.length) (hpq : p ≠ q) (h : Qk p s (σ.set q k) o e <+: τ) : τ[q]? = some k := XI h (by rw [Zq (Ne.symm hpq)]; simp [hq])
theorem Vg (h : Qk p s (σ.set q k) o e <+: τ) : σ.length ≤ τ.length := by
 have := h.length_le
 simpa [Zt] using this
theorem BR (hpq : p ≠ q) : Qk p s ((Qk p s σ o0 e0).set q k') o1 e1 = Qk p s (σ.set q k') o1 e1 := by
 rw [Pp hpq,Pp hpq,Yp]
theorem UB (hp : p < σ.length) (hq : q < σ.length) (hpq : p ≠ q) (h : Qk p s (σ.set q k) o e <+: τ) : Qk p s (σ.set q k') o1 e1 <+: (Qk p s τ o1 e1).set q k' := by
 have h1 : Qk p s (σ.set q k) o1 e1 <+: Qk p s τ o1 e1 := FG (by simpa using hp) h
 have h2 := ME h1 (by rw [Zt]; simpa using hq) (k := k')
 rw [← Pp hpq,List.set_set] at h2
 exact h2
theorem YM (hp : p < σ.length) (hq : q < σ.length) (hpq : p ≠ q) (h : Qk p s (σ.set q k) o e <+: τ) (h1 : Qk p s ((Qk p s τ o0 e0).set q k') o1 e1 <+: τ1) : Qk p s (σ.set q k') o1 e1 <+: τ1 := by
 rw [BR hpq,Pp hpq] at h1
 have h2 := UB (k' := k') (o1 := o1) (e1 := e1) hp hq hpq h
 exact h2.trans h1
theorem ZJ {n0 sz : Nat} {v : PV} {ys : List PV} (h : Grow n0 sz τ v ys) (hp : p < n0) (hq : q < n0) (hpq : p ≠ q) (h1 : Qk p s ((Qk p s τ o0 e0).set q k') o1 e1 <+: τ1) : Grow n0 sz τ1 v ys := by
 rw [BR hpq] at h1
 exact G3 h hp hq h1
theorem P8 {n0 sz : Nat} {v : PV} {ys : List PV} (h : Grow n0 sz τ v ys) (hp : p < n0) (hq : q < n0) : Grow n0 sz ((Qk p s τ o1 e1).set q k') v ys := by
 rcases h with ⟨rfl,rfl⟩ | ⟨c,gg,hc,rfl,hb,hne⟩
 ·exact .inl ⟨rfl,rfl⟩
 ·refine .inr ⟨c,gg,hc,rfl,?_,hne⟩
  rw [List.getElem?_set_ne (by omega),Zq (by omega)]
  exact hb
end
structure Oz where
 maps : List (List Xb)
 unions : List (List Int)
 sigs : List (Int × Int)
 routs : List YA
structure Kv where
 insts : List Xz
 jumps : List (List Int)
 parts : List (List Int)
 texts : List Str
 trans : List YW
 lines : List (Int × Int)
def IF : Pa Oz := QJ (Xf MA) fun a => QJ (Xf UI) fun b => QJ (Xf PO) fun c => QJ (Xf TH) fun d => Vd ⟨a,b,c,d⟩
def EA : Pa Kv := QJ (Xf Uf) fun e => QJ (Xf UI) fun f => QJ (Xf UI) fun g => QJ (Xf S0) fun h => QJ (Xf Ux) fun i => QJ (Xf PO) fun j => Vd ⟨e,f,g,h,i,j⟩
def VQ (a : Oz) (b : Kv) : ZD := ⟨a.maps,a.unions,a.sigs,a.routs,b.insts,b.jumps,b.parts,b.texts,b.trans,b.lines⟩
theorem Fm : TB = QJ IF fun a => QJ EA fun b => Vd (VQ a b) := by
 simp only [TB,IF,EA,Ut,Te,VQ]
abbrev Qd : PV := .list .nil []
def Y3 (a : Oz) : List PV := [Q1 (a.maps.map QK),Q1 (a.unions.map Qa),Q1 (a.sigs.map Qw),Q1 (a.routs.map Qx)]
def TZ (b : Kv) : List PV := [Q1 (b.insts.map QD),Q1 (b.jumps.map Qa),Q1 (b.parts.map Qa),Q1 (b.texts.map PV.str),Q1 (b.trans.map QY),Q1 (b.lines.map Qw)]
end Go.Proofs.YtgghfcchanilpaaGreatDoor
