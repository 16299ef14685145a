import Derived.Test.YtgghfcchanilpaaGreatDoorRfA
set_option linter.unusedVariables false
set_option linter.unusedSimpArgs false
namespace Go.Proofs.YtgghfcchanilpaaGreatDoor
open Go Go.Abs
theorem Oi {α : Type} (pa : Pa α) : ∀ n : Nat,XJ pa (n + 1) = QJ (XJ pa n) fun l => QJ pa fun a => Vd (l ++ [a])
 | 0 => by
  simp only [XJ,Te]
  rfl
 | n + 1 => by
  have ih := Oi pa n
  have e1 : XJ pa (n + 1 + 1) = QJ pa fun a => QJ (XJ pa (n + 1)) fun l => Vd (a :: l) := rfl
  have e2 : XJ pa (n + 1) = QJ pa fun a => QJ (XJ pa n) fun l => Vd (a :: l) := rfl
  rw [e1]
  conv => lhs; rw [ih]
  conv => rhs; rw [e2]
  simp only [Ut,Te,List.cons_append]
theorem Gp {α : Type} {pa : Pa α} {s : Str} {k : Int} {j : Nat} (h : XJ pa j s = .error k) : ∀ n,j ≤ n → XJ pa n s = .error k := by
 intro n hn
 obtain ⟨d,rfl⟩ := Nat.le.dest hn
 clear hn
 induction d with
 | zero => exact h
 | succ d ih =>
  rw [← Nat.add_assoc,Oi]
  exact QN ih
section
variable {p : Nat} {s : Str} {σ τ : St} {o o1 o2 : Nat} {e e1 e2 : Int}
theorem Run.snoc {α : Type} {pa : Pa α} {j : Nat} {l : List α} {a : α} (h : Run (XJ pa j) s o e o1 e1 l) (k : Run pa s o1 e1 o2 e2 a) (hr : Rf p s τ o2 e2) : Run (XJ pa (j + 1)) s o e o2 e2 (l ++ [a]) := by
 rw [Oi]
 exact h.bind (k.bind (Run.ret hr _))
theorem Run.more {α : Type} {pa : Pa α} {j n : Nat} {l : List α} (h : Run (XJ pa j) s o e o1 e1 l) (hne : e1 ≠ 0) (hj : j ≤ n) : Run (XJ pa n) s o e o1 e1 l := by
 rcases h with ⟨-,h1,-⟩ | ⟨h1,h2,h3⟩
 ·exact absurd h1 hne
 ·refine .inr ⟨h1,h2,?_⟩
  rcases h3 with ⟨h3,h4⟩ | h3
  ·exact .inl ⟨h3,Gp h4 _ hj⟩
  ·exact .inr h3
theorem Run.done {α : Type} {pa : Pa α} {j n : Nat} {l : List α} (h : Run (XJ pa j) s o e o1 e1 l) (hj : j ≤ n) (hx : ¬ (j < n ∧ e1 = 0)) : Run (XJ pa n) s o e o1 e1 l := by
 by_cases he : e1 = 0
 ·obtain rfl : j = n := by omega
  exact h
 ·exact h.more he hj
theorem Rf.pre (h : Rf p s σ o e) (hp : σ <+: τ) : Rf p s τ o e := ⟨XI hp h.at_,h.le,h.err⟩
theorem FG (hp : p < σ.length) (h : Qk p s σ o1 e1 <+: τ) : Qk p s σ o2 e2 <+: Qk p s τ o2 e2 := by
 obtain ⟨t,rfl⟩ := h
 refine ⟨t,?_⟩
 unfold Qk
 rw [List.set_append_left _ _ (by simpa using hp),List.set_set]
theorem Ca {sz : Nat} {v : PV} {ys : List PV} (hp : p < σ.length) (h : Grow σ.length sz τ v ys) : Grow σ.length sz (Qk p s τ o2 e2) v ys := by
 rcases h with ⟨rfl,rfl⟩ | ⟨c,gg,hc,rfl,hb,hne⟩
 ·exact .inl ⟨rfl,rfl⟩
 ·refine .inr ⟨c,gg,hc,rfl,?_,hne⟩
  rw [Zq (by omega)]
  exact hb
theorem K2 (hp : p < σ.length) (h : Qk p s σ o2 e2 <+: τ) : I0 σ (fun c => σ.length ≤ c) τ (Qk p s σ o2 e2) := by
 have hl := Zt (p := p) (s := s) (σ := σ) o2 e2
 refine ⟨fun c hc => hc,h.length_le,fun c hc _ => by omega,fun c k hk => .inr ⟨?_,?_⟩⟩
 ·have := (List.getElem?_eq_some_iff.1 hk).1
  omega
 ·refine ⟨k,XI h hk,?_⟩
  by_cases hc : c = p
  ·subst hc
   rw [Sa hp] at hk
   cases hk
   refine .inl (.inr ⟨_,rfl,rfl,fun i x y hx hy => ?_⟩)
   rw [hx] at hy
   cases hy
   cases i with
   | zero =>
    cases hx
    refine .base _ (.agg _ fun i x hx => ?_)
    match i,hx with
    | 0,hx => cases hx; exact .str _
    | 1,hx => cases hx; exact .int _ _
    | 2,hx => cases hx; exact .int _ _
   | succ i => simp at hx
  ·refine .inr ⟨rfl,?_⟩
   rw [Zq hc] at hk
   exact hk
structure Acc {α : Type} (pa : Pa α) (enc : α → PV) (sz p : Nat) (s : Str) (σ : St) (o : Nat) (e : Int) (j : Nat) (τ : St) (v : PV) (o1 : Nat) (e1 : Int) (l : List α) : Prop where
 len : l.length = j
 pre : Qk p s σ o1 e1 <+: τ
 grow : Grow σ.length sz τ v (l.map enc)
 run : Run (XJ pa j) s o e o1 e1 l
variable {α : Type} {pa : Pa α} {enc : α → PV} {sz j : Nat} {v : PV} {l : List α}
theorem Acc.rf (h : Acc pa enc sz p s σ o e j τ v o1 e1 l) (hr : Rf p s σ o e) : Rf p s τ o1 e1 := (hr.run h.run).pre h.pre
theorem Acc.start (hr : Rf p s σ o e) : Acc pa enc sz p s σ o e 0 σ (.list .nil []) o e [] where
 len := rfl
 pre := by rw [Pt hr.at_]; exact List.prefix_rfl
 grow := Grow.nil _ _ _
 run := Run.ret hr _
theorem Acc.step {by_ : Nat} (hby : by_ ≤ 96) (h : Acc pa enc sz p s σ o e j τ v o1 e1 l) (hr : Rf p s σ o e) (hj : j ≤ 1048576) {a : α} (hsz : Ul sz (enc a)) (k : Run pa s o1 e1 o2 e2 a) :
  ∃ v' τ',QM sz by_ v (.list .full [enc a]) (Qk p s τ o2 e2) = some (v',τ') ∧ Acc pa enc sz p s σ o e (j + 1) τ' v' o2 e2 (l ++ [a]) := by
 have hpp : Qk p s σ o2 e2 <+: Qk p s τ o2 e2 := FG hr.lt h.pre
 have hg3 : Grow (Qk p s σ o2 e2).length sz (Qk p s τ o2 e2) v (l.map enc) := by
  rw [Zt]
  exact Ca hr.lt h.grow
 obtain ⟨v',τ',e1',hgr',hp',_⟩ := hg3.app (by_ := by_) (y := .list .full [enc a]) hpp rfl (by simpa using hsz) (by
  have hl := h.len
  have : ((l.map enc).length + [enc a].length) * by_ ≤ 1048577 * 96 := Nat.mul_le_mul (by simp; omega) hby
  omega)
 rw [Zt] at hgr'
 refine ⟨v',τ',e1',by simp [h.len],hp',?_,h.run.snoc k ((h.rf hr).run k)⟩
 rw [List.map_append]
 exact hgr'
end
theorem UH {j n : Nat} {e : Int} (h : (decide (j < n) && (e == 0)) = true) : j < n ∧ e = 0 := by
 simpa only [Bool.and_eq_true,decide_eq_true_eq,beq_iff_eq] using h
theorem Zm {j n : Nat} {e : Int} (h : (decide (j < n) && (e == 0)) = false) : ¬ (j < n ∧ e = 0) := by
 intro h2
 have : (decide (j < n) && (e == 0)) = true := by simpa only [Bool.and_eq_true,decide_eq_true_eq,beq_iff_eq] using h2
 rw [this] at h
 cases h
def vh (g sz by_ : Nat) (z : PV) (Pr : Program) (W : Q8) (a0 : PV) (σ : St) (R : Res → St → Prop) : Prop :=
Q0 W 187 [a0] σ (fun v0 σ1 =>
X6 σ (fun J2 =>
QC [(0,a0),(3,v0),(4,(.list .nil [])),(5,(.int .i64 0))] fun x27 =>
Lfp σ (fun Φ5 x6 σ7 =>
Qg False (QR none .lss (x6 5) (x6 3)) fun v8 =>
if true = true then XB False v8 true (fun J9 =>
Qg False (Vb (x6 0)) fun v12 =>
Qg False (Qh 2 v12) fun v13 =>
Qg False (Q4 false 1 v13 σ7) fun v14 =>
Qg False (QR none .eql v14 (.int .i64 0)) fun v15 =>
J9 (Q9 [(12,(.v (x6 0))),(13,(.v v12)),(14,(.v v13)),(15,(.v v14)),(16,(.v v15))]) σ7) σ7 (fun y10 σ11 =>
Qg False (Qc v8 (y10 16).pv (.bool false)) fun v16 =>
Q3 v16 (
Q0 W g [(x6 0)] σ11 (fun v17 σ18 =>
Qg False (QI sz (List.replicate 1 z) [(0,v17)]) fun v19 =>
XE (QM sz by_ (x6 4) (.list .full v19) σ18) fun v20 σ21 =>
Qg False (QR none .add (x6 5) (.int .i64 1)) fun v22 =>
QC [(0,(x6 0)),(3,(x6 3)),(4,v20),(5,v22)] fun x23 => Φ5 x23 σ21) (fun e24 σ25 => R (.pan e24) σ25)) (
QC [(4,(x6 4))] fun x26 => J2 x26 σ11)) else False) x27 σ1) (fun x3 σ4 =>
XG σ (x3 4) σ4 fun v σ => R (.ret v) σ)) (fun e28 σ29 => R (.pan e28) σ29)
theorem NM {N g sz by_ : Nat} {z : PV} (hN : ∀ (a0 : PV) (σ : St) (R : Res → St → Prop),Qn (Qq W) Tryz.prog QO N [a0] σ R = vh g sz by_ z Tryz.prog W a0 σ R) (hby : by_ ≤ 96) {α : Type} {pa : Pa α} {enc : α → PV} (hfl : ∀ a,Flat (enc a)) (hsz : ∀ a,Ul sz (enc a)) {p : Nat}
  (h : VT g [.ptr p 0 0 0] p pa enc) : VT N [.ptr p 0 0 0] p (Xf pa) (fun l => Q1 (l.map enc)) := Vz fun s σ o e R hrd hl hok => by
 rw [hN]
 unfold vh
 refine Mn hrd hl (fun n o0 e0 h0 hn0 hon hr0 => ?_)
 simp only [zz,Nat.reduceEqDiff]
 have hl0 := Zt (p := p) (s := s) (σ := σ) o0 e0
 refine Qr (fun x τ => ∃ (l : List _) (o1 : Nat) (e1 : Int) (v : PV),x 4 = v ∧ Acc pa enc sz p s (Qk p s σ o0 e0) o0 e0 l.length τ v o1 e1 l ∧ Run (XJ pa n) s o0 e0 o1 e1 l) (fun x τ hx => ?_) ?_
 ·obtain ⟨l,o1,e1,v,rfl,hac,hrun⟩ := hx
  have hpre := hac.pre
  rw [Yp] at hpre
  have hg := hac.grow
  rw [hl0] at hg
  refine Z2 (fun c => σ.length ≤ c) (K2 hrd.lt hpre) (Zu hg (fun _ h => h) fun y hy => ?_) (hok l o1 e1 (h0.bind hrun))
  obtain ⟨a,_,rfl⟩ := List.mem_map.1 hy
  exact hfl a
 refine QT n (fun j x τ => ∃ (l : List α) (o1 : Nat) (e1 : Int) (v : PV),x = Qz [(0,.ptr p 0 0 0),(3,.int .i64 n),(4,v),(5,.int .i64 j)] ∧ Acc pa enc sz p s (Qk p s σ o0 e0) o0 e0 j τ v o1 e1 l) ?_ ⟨[],o0,e0,.list .nil [],rfl,Acc.start hr0⟩
 rintro Φ j x τ hj ⟨l,o1,e1,v,rfl,hac⟩ next
 have hr1 := hac.rf hr0
 simp only [Xu,Vw,Nat.zero_add,YH hr1.at_,zz,Nat.reduceEqDiff]
 refine XW (e1 == 0) (fun _ J hJ => hJ _ rfl) ?_
 refine Qu (fun hb => ?_) (fun hb => ?_)
 ·obtain ⟨hlt,he⟩ := UH hb
  refine h.Q0 hr1 hl (fun a o2 e2 h2 hr2 => ?_)
  obtain ⟨v',τ',e3,hac'⟩ := hac.step hby hr0 (by omega) (hsz a) h2
  simp only [Xs (z := z) (hsz a),e3,zz,Nat.reduceEqDiff]
  rw [Qi _ (by omega) (by omega)]
  simp only [zz,Nat.reduceEqDiff]
  exact next _ _ hlt ⟨l ++ [a],o2,e2,v',rfl,hac'⟩
 ·have hx := Zm hb
  exact ⟨l,o1,e1,v,rfl,by rw [hac.len]; exact hac,hac.run.done hj hx⟩
theorem c256 {p : Nat} : VT 256 [.ptr p 0 0 0] p (Xf Xq) Qa :=
 NM (sz := 1) (by_ := 8) (fun a0 σ R => (GB W a0 σ R).trans rfl) (by omega) (fun a => .int _ _) (fun _ => ⟨_,rfl,rfl⟩) VC
theorem A6 {p : Nat} : VT 189 [.ptr p 0 0 0] p (Xf UI) (fun l => Q1 (l.map Qa)) :=
 NM (sz := 1) (by_ := 24) (fun a0 σ R => (ER W a0 σ R).trans rfl) (by omega) V7 (fun _ => Mb _) c256
theorem zg {p : Nat} : VT 188 [.ptr p 0 0 0] p MA (fun l => Q1 (l.map Qm)) := Vz fun s σ o e R hrd hl hok => by
 rw [Ef]
 delta B0 bF uF gF kF nI nL mF
 refine Mn hrd hl (fun n o0 e0 h0 hn0 hon hr0 => ?_)
 simp only [zz,Nat.reduceEqDiff]
 have hl0 := Zt (p := p) (s := s) (σ := σ) o0 e0
 refine Qr (fun x τ => ∃ (l : List _) (o1 : Nat) (e1 : Int) (v : PV),x 4 = v ∧ Acc N4 Qm 5 p s (Qk p s σ o0 e0) o0 e0 l.length τ v o1 e1 l ∧ Run (XJ N4 n) s o0 e0 o1 e1 l) (fun x τ hx => ?_) ?_
 ·obtain ⟨l,o1,e1,v,rfl,hac,hrun⟩ := hx
  have hpre := hac.pre
  rw [Yp] at hpre
  have hg := hac.grow
  rw [hl0] at hg
  refine Z2 (fun c => σ.length ≤ c) (K2 hrd.lt hpre) (Zu hg (fun _ h => h) fun y hy => ?_) (hok l o1 e1 (h0.bind hrun))
  obtain ⟨a,_,rfl⟩ := List.mem_map.1 hy
  exact NP a
 refine QT n (fun j x τ => ∃ (l : List Xb) (o1 : Nat) (e1 : Int) (v : PV),x = Qz [(0,.ptr p 0 0 0),(3,.int .i64 n),(4,v),(5,.int .i64 j)] ∧ Acc N4 Qm 5 p s (Qk p s σ o0 e0) o0 e0 j τ v o1 e1 l) ?_ ⟨[],o0,e0,.list .nil [],rfl,Acc.start hr0⟩
 rintro Φ j x τ hj ⟨l,o1,e1,v,rfl,hac⟩ next
 have hr1 := hac.rf hr0
 simp only [Xu,Vw,Nat.zero_add,YH hr1.at_,zz,Nat.reduceEqDiff]
 refine XW (e1 == 0) (fun _ J hJ => hJ _ rfl) ?_
 refine Qu (fun hb => ?_) (fun hb => ?_)
 ·obtain ⟨hlt,he⟩ := UH hb
  have z1 : ∀ a : Int,Qv 1 (.agg [(.int .i64 0),(.int .i64 0),(.int .i64 0),(.int .i64 0),(.bool false)]) 0 (.int .i64 a) = some (.agg [(.int .i64 a),(.int .i64 0),(.int .i64 0),(.int .i64 0),(.bool false)]) := fun _ => rfl
  have z2 : ∀ a b : Int,Qv 1 (.agg [(.int .i64 a),(.int .i64 0),(.int .i64 0),(.int .i64 0),(.bool false)]) 1 (.int .i64 b) = some (.agg [(.int .i64 a),(.int .i64 b),(.int .i64 0),(.int .i64 0),(.bool false)]) := fun _ _ => rfl
  have z3 : ∀ a b c : Int,Qv 1 (.agg [(.int .i64 a),(.int .i64 b),(.int .i64 0),(.int .i64 0),(.bool false)]) 2 (.int .i64 c) = some (.agg [(.int .i64 a),(.int .i64 b),(.int .i64 c),(.int .i64 0),(.bool false)]) := fun _ _ _ => rfl
  have z4 : ∀ a b c d : Int,Qv 1 (.agg [(.int .i64 a),(.int .i64 b),(.int .i64 c),(.int .i64 0),(.bool false)]) 3 (.int .i64 d) = some (.agg [(.int .i64 a),(.int .i64 b),(.int .i64 c),(.int .i64 d),(.bool false)]) := fun _ _ _ _ => rfl
  have z5 : ∀ (a b c d : Int) (f : Bool),Qv 1 (.agg [(.int .i64 a),(.int .i64 b),(.int .i64 c),(.int .i64 d),(.bool false)]) 4 (.bool f) = some (Qm ⟨a,b,c,d,f⟩) := fun _ _ _ _ _ => rfl
  refine VC.Q0 hr1 hl (fun a o2 e2 h2 hr2 => ?_)
  simp only [z1,zz,Nat.reduceEqDiff]
  refine VC.Xc hr2 hl (fun b o3 e3 h3 hr3 => ?_)
  simp only [z2,zz,Nat.reduceEqDiff]
  refine VC.Xc hr3 hl (fun c o4 e4 h4 hr4 => ?_)
  simp only [z3,zz,Nat.reduceEqDiff]
  refine VC.Xc hr4 hl (fun d o5 e5 h5 hr5 => ?_)
  simp only [z4,zz,Nat.reduceEqDiff]
  refine vV.Xc hr5 hl (fun f o6 e6 h6 hr6 => ?_)
  have hrun : Run N4 s o1 e1 o6 e6 ⟨a,b,c,d,f⟩ := h2.bind (h3.bind (h4.bind (h5.bind (h6.bind (Run.ret hr6 _)))))
  obtain ⟨v',τ',e7,hac'⟩ := hac.step (by_ := 40) (by omega) hr0 (by omega) (a := (⟨a,b,c,d,f⟩ : Xb)) ⟨_,rfl,rfl⟩ hrun
  simp only [z5,OI,Xs (z := .agg [(.int .i64 0),(.int .i64 0),(.int .i64 0),(.int .i64 0),(.bool false)]) (show Ul 5 (Qm ⟨a,b,c,d,f⟩) from ⟨_,rfl,rfl⟩),e7,zz,Nat.reduceEqDiff]
  rw [Qi _ (by omega) (by omega)]
  simp only [zz,Nat.reduceEqDiff]
  exact next _ _ hlt ⟨l ++ [_],o6,e6,v',rfl,hac'⟩
 ·have hx := Zm hb
  exact ⟨l,o1,e1,v,rfl,by rw [hac.len]; exact hac,hac.run.done hj hx⟩
end Go.Proofs.YtgghfcchanilpaaGreatDoor
