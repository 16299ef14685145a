import Derived.Test.YtgghfcchanilpaaGreatDoorSpRc
import Derived.Test.YtgghfcchanilpaaGreatDoorSpWd
set_option linter.unusedVariables false
set_option linter.unusedSimpArgs false
namespace Go.Proofs.YtgghfcchanilpaaGreatDoor
open Go Go.Abs
inductive Flat : PV → Prop where
 | bool (b) : Flat (.bool b)
 | int (k i) : Flat (.int k i)
 | str (l) : Flat (.str l)
 | list (k xs) : (∀ x ∈ xs,Flat x) → Flat (.list k xs)
 | agg (xs) : (∀ x ∈ xs,Flat x) → Flat (.agg xs)
theorem Flat.free {x : PV} (h : Flat x) (D : Nat → Prop) : YX D x := by
 induction h with
 | bool b => exact .bool b
 | int k i => exact .int k i
 | str l => exact .str l
 | list k xs _ ih => exact .list k xs fun i x hx => ih x (List.mem_of_getElem? hx)
 | agg xs _ ih => exact .agg xs fun i x hx => ih x (List.mem_of_getElem? hx)
theorem HH {ys : List PV} (h : ∀ y ∈ ys,Flat y) : Flat (Q1 ys) := by
 cases ys with
 | nil => exact .list _ _ (by simp)
 | cons y ys => exact .list _ _ h
theorem Zu {n0 sz : Nat} {σ : St} {x : PV} {ys : List PV} (h : Grow n0 sz σ x ys) {D : Nat → Prop} (hD : ∀ b,n0 ≤ b → D b) (hu : ∀ y ∈ ys,Flat y) : VE σ D x (Q1 ys) := by
 rcases h with ⟨rfl,rfl⟩ | ⟨b,g,hb0,rfl,hb,hne⟩
 ·exact .list _ _ _ rfl (by simp)
 ·cases ys with
  | nil => exact absurd rfl hne
  | cons y ys =>
   refine .sref b g sz 0 _ g sz _ _ hb rfl (hD b hb0) rfl (by omega) fun i a c hi ha hc => ?_
   rw [Nat.zero_add,hc] at ha
   cases ha
   exact .base _ ((hu a (List.mem_of_getElem? hc)).free D)
theorem XI {σ τ : St} (h : σ <+: τ) {i : Nat} {k : Blk} (hk : σ[i]? = some k) : τ[i]? = some k := by
 obtain ⟨t,rfl⟩ := h
 rw [List.getElem?_append_left (List.getElem?_eq_some_iff.1 hk).1]
 exact hk
section
variable {p b g : Nat} {body : Str} {σ τ : St} {off off2 : Nat}
theorem Tf (σ : St) (off : Nat) : (QX p b g body σ off).length = σ.length := by simp [QX]
theorem Rd.pre (h : Rd p b g body σ off) (hp : σ <+: τ) : Rd p b g body τ off := ⟨XI hp h.at_,XI hp h.bytes,h.ne,h.le⟩
theorem BZ (hp : p < σ.length) (h : QX p b g body σ off <+: τ) : QX p b g body σ off2 <+: QX p b g body τ off2 := by
 obtain ⟨t,rfl⟩ := h
 refine ⟨t,?_⟩
 unfold QX
 rw [List.set_append_left _ _ (by simpa using hp),List.set_set]
theorem Dz {sz : Nat} {v : PV} {ys : List PV} (hp : p < σ.length) (h : Grow σ.length sz τ v ys) : Grow σ.length sz (QX p b g body τ off2) v ys := by
 rcases h with ⟨rfl,rfl⟩ | ⟨c,gg,hc,rfl,hb,hne⟩
 ·exact .inl ⟨rfl,rfl⟩
 ·refine .inr ⟨c,gg,hc,rfl,?_,hne⟩
  unfold QX
  rw [List.getElem?_set_ne (by omega)]
  exact hb
theorem Rd.b_lt (h : Rd p b g body σ off) : b < σ.length := (List.getElem?_eq_some_iff.1 h.bytes).1
theorem HL {D : Nat → Prop} (b g off n : Nat) (h : ¬ D b) : YX D (XU b g off n) := by
 unfold XU
 split
 ·exact .list _ _ (by simp)
 ·exact .sref _ _ _ _ _ h
theorem Nu (hrd : Rd p b g body σ off) (h : QX p b g body σ off2 <+: τ) : I0 σ (fun c => σ.length ≤ c) τ (QX p b g body σ off2) := by
 have hl := Tf (p := p) (b := b) (g := g) (body := body) σ off2
 refine ⟨fun c hc => hc,h.length_le,fun c hc _ => by omega,fun c k hk => .inr ⟨?_,?_⟩⟩
 ·have := (List.getElem?_eq_some_iff.1 hk).1
  omega
 ·refine ⟨k,XI h hk,?_⟩
  by_cases hc : c = p
  ·subst hc
   have := (hrd.next (off' := off2))
   have hk2 : (QX c b g body σ off2)[c]? = some (O4 b g off2 (body.length - off2)) := by simp [QX,hrd.lt]
   rw [hk2] at hk
   cases hk
   refine .inl (.inr ⟨_,rfl,rfl,fun i x y hx hy => ?_⟩)
   rw [hx] at hy
   cases hy
   cases i with
   | zero =>
    cases hx
    have hb := hrd.b_lt
    refine .base _ (.agg _ fun i x hx => ?_)
    cases i with
    | zero =>
     cases hx
     exact HL _ _ _ _ (by omega)
    | succ i => simp at hx
   | succ i => simp at hx
  ·refine .inr ⟨rfl,?_⟩
   unfold QX at hk
   rw [List.getElem?_set_ne (Ne.symm hc)] at hk
   exact hk
theorem Cm {e : St} (hp : QX p b g body σ off <+: τ) (h : YF p τ e) : YF p σ e := fun i k hi hk => h i k hi (XI hp (YF.set _ i k hi hk))
end
def UW {α : Type} (l : List α) : Except Int (List α × Str) → Except Int (List α × Str)
 | .error e => .error e
 | .ok (m,s) => .ok (l ++ m,s)
theorem YR {α : Type} {pa : Pa α} {n : Nat} {s s' : Str} {a : α} (h : pa s = .ok (a,s')) (l : List α) : UW l (XJ pa (n + 1) s) = UW (l ++ [a]) (XJ pa n s') := by
 have e : XJ pa (n + 1) s = QJ (XJ pa n) (fun l => Vd (a :: l)) s' := Qe h
 rw [e]
 unfold QJ
 cases hr : XJ pa n s' with
 | error e => rfl
 | ok x =>
  obtain ⟨m,t⟩ := x
  simp [UW,Vd]
def wE (sz by_ : Nat) (z : PV) (Pr : Program) (W : Q8) (a0 a1 : PV) (σ : St) (R : Res → St → Prop) : Prop :=
Q0 W 250 [a0] σ (fun v0 σ1 =>
QC [(1,a1),(5,(.list .nil [])),(7,v0),(8,(.int .i64 0))] fun x15 =>
Lfp σ (fun Φ2 x3 σ4 =>
Qg False (QR none .lss (x3 8) (x3 7)) fun v5 =>
Q3 v5 (
Zc (Qq W) Pr false (x3 1) [] σ4 (fun v6 σ7 =>
Qg False (QI sz (List.replicate 1 z) [(0,v6)]) fun v8 =>
XE (QM sz by_ (x3 5) (.list .full v8) σ7) fun v9 σ10 =>
Qg False (QR none .add (x3 8) (.int .i64 1)) fun v11 =>
QC [(1,(x3 1)),(5,v9),(7,(x3 7)),(8,v11)] fun x12 => Φ2 x12 σ10) (fun e13 σ14 => R (.pan e13) σ14)) (
XG σ (x3 5) σ4 fun v σ => R (.ret v) σ)) x15 σ1) (fun e16 σ17 => R (.pan e16) σ17)
theorem Zz {N sz by_ : Nat} {z : PV} (hN : ∀ (a0 a1 : PV) (σ : St) (R : Res → St → Prop),Qn (Qq W) Tryz.prog QO N [a0,a1] σ R = wE sz by_ z Tryz.prog W a0 a1 σ R) (hby : by_ ≤ 96) {α : Type} {pa : Pa α} {enc : α → PV} (hfl : ∀ a,Flat (enc a)) (hsz : ∀ a,Ul sz (enc a)) {p : Nat} {H0 : List (Nat × Blk)} {f k : Nat} {caps : List PV}
  (hg : Yj f = true) (h : Yn f (YP k [] caps) p H0 pa enc) : Yn N [.ptr p 0 0 0,.func f k caps] p H0 (Xf pa) (fun l => Q1 (l.map enc)) := Zs fun b g body σ off R hrd h0 hl hok herr => by
 rw [hN]
 unfold wE
 refine xJ.Q0 hrd (fun h hh => by cases hh) hl (fun n off1 e1 l1 l2 hr1 => ?_) (fun e τ he hs => herr e τ (QN he) hs)
 have hn := IQ e1
 rw [List.length_drop] at hn
 have hpl : Xf pa (body.drop off) = XJ pa n (body.drop off1) := Qe e1
 have hid : ∀ r : Except Int (List α × Str),UW [] r = r := fun r => by
  cases r with
  | error e => rfl
  | ok x => rfl
 simp only [zz,Nat.reduceEqDiff]
 refine QT n (fun j x τ => ∃ (l : List α) (off2 : Nat) (v : PV),x = Qz [(1,.func f k caps),(5,v),(7,.int .i64 n),(8,.int .i64 j)] ∧ l.length = j ∧ off ≤ off2 ∧ off2 ≤ body.length ∧ QX p b g body σ off2 <+: τ ∧ Grow σ.length sz τ v (l.map enc) ∧ Xf pa (body.drop off) = UW l (XJ pa (n - j) (body.drop off2))) ?_ ⟨[],off1,.list .nil [],rfl,rfl,l1,l2,List.prefix_rfl,Grow.nil _ _ _,by rw [hid]; exact hpl⟩
 rintro Φ j x τ hj ⟨l,off2,v,rfl,hlen,o1,o2,hp,hgr,hrep⟩ next
 have hr2 : Rd p b g body τ off2 := (hrd.next o2).pre hp
 have h02 : ∀ h ∈ H0,τ[h.1]? = some h.2 ∧ h.1 ≠ p := fun q hq => ⟨XI hp (YF.set _ _ _ (h0 q hq).2 (h0 q hq).1),(h0 q hq).2⟩
 simp only [zz,Nat.reduceEqDiff]
 refine Qu (fun hb => ?_) (fun hb => ?_)
 ·have hlt : j < n := by
   have : (j : Int) < n := by simpa using hb
   omega
  have hd : n - j = (n - (j + 1)) + 1 := by omega
  rw [hd] at hrep
  rw [YO hg]
  refine h.Q0 hr2 h02 hl (fun a off3 q1 q2 q3 hr3 => ?_) (fun e τ' he hs => herr e τ' ?_ (Cm hp hs))
  ·rw [YR q1] at hrep
   have hpp : QX p b g body σ off3 <+: QX p b g body τ off3 := BZ hrd.lt hp
   have hg3 : Grow (QX p b g body σ off3).length sz (QX p b g body τ off3) v (l.map enc) := by
    rw [Tf]
    exact Dz hrd.lt hgr
   obtain ⟨v',τ',e1,hgr',hp',_⟩ := hg3.app (by_ := by_) (y := .list .full [enc a]) hpp rfl (by simpa using hsz a) (by
    have : ((l.map enc).length + [enc a].length) * by_ ≤ 1048577 * 96 := Nat.mul_le_mul (by simp; omega) hby
    omega)
   simp only [Xs (z := z) (hsz a),e1,zz,Nat.reduceEqDiff]
   rw [Qi _ (by omega) (by omega)]
   simp only [zz,Nat.reduceEqDiff]
   rw [Tf] at hgr'
   refine next _ _ hlt ⟨l ++ [a],off3,v',rfl,by simp [hlen],by omega,q3,hp',?_,hrep⟩
   rw [List.map_append]
   exact hgr'
  ·have e2 : XJ pa (n - (j + 1) + 1) (body.drop off2) = .error e := QN he
   rw [hrep,e2]
   rfl
 ·have hlt : ¬ j < n := by
   have : ¬ (j : Int) < n := by simpa using hb
   omega
  obtain rfl : j = n := by omega
  rw [Nat.sub_self] at hrep
  have e2 : Xf pa (body.drop off) = .ok (l,body.drop off2) := by
   rw [hrep]
   simp [XJ,Vd,UW]
  refine Z2 (fun c => σ.length ≤ c) (Nu hrd hp) (Zu hgr (fun _ h => h) fun y hy => ?_) (hok l off2 e2 o1 o2)
  obtain ⟨a,_,rfl⟩ := List.mem_map.1 hy
  exact hfl a
end Go.Proofs.YtgghfcchanilpaaGreatDoor
namespace Go.Proofs.YtgghfcchanilpaaGreatDoor
open Go Go.Abs
def cell (p : Nat) : Blk := .arr 0 1 [.ptr p 0 0 0]
theorem Yn.Xc {f : FuncId} {args : List PV} {p : Nat} {H0 : List (Nat × Blk)} {α : Type} {pa : Pa α} {enc : α → PV} (h : Yn f args p H0 pa enc) {b g : Nat} {body : Str} {σ : St} {off o1 : Nat} {K X : PV → St → Prop} (hr : Rd p b g body σ off) (ho : o1 ≤ body.length) (h0 : ∀ h ∈ H0,σ[h.1]? = some h.2 ∧ h.1 ≠ p) (hl : body.length ≤ 1048576)
  (k : ∀ a off',pa (body.drop o1) = .ok (a,body.drop off') → o1 ≤ off' → off' ≤ body.length → K (enc a) (QX p b g body σ off')) (x : ∀ e τ,pa (body.drop o1) = .error e → YF p σ τ → X (V4 e) τ) : Go.Abs.Q0 W f args (QX p b g body σ o1) K X := by
 refine h.Q0 (hr.next ho) (fun q hq => ⟨YF.set _ _ _ (h0 q hq).2 (h0 q hq).1,(h0 q hq).2⟩) hl (fun a o2 q1 q2 q3 _ => ?_) (fun e τ he hs => x e τ he ((YF.set _).trans hs))
 rw [Ot]
 exact k a o2 q1 q2 q3
theorem On {p q : Nat} {σ : St} (h : σ[q]? = some (cell p)) : Q4 false 1 (.ptr q 0 0 0) σ = some (.ptr p 0 0 0) := by
 simp [Q4,h,cell,Q6,PV.cells?]
theorem XH {p q b g : Nat} {body : Str} {σ : St} {off : Nat} (h : σ[q]? = some (cell p) ∧ q ≠ p) : Q4 false 1 (.ptr q 0 0 0) (QX p b g body σ off) = some (.ptr p 0 0 0) := On (YF.set _ _ _ h.2 h.1)
theorem no0 {σ : St} {p : Nat} : ∀ h ∈ ([] : List (Nat × Blk)),σ[h.1]? = some h.2 ∧ h.1 ≠ p := fun h hh => by cases hh
theorem of1 {σ : St} {p q : Nat} {k : Blk} (h : ∀ h ∈ [(q,k)],σ[h.1]? = some h.2 ∧ h.1 ≠ p) : σ[q]? = some k ∧ q ≠ p := h (q,k) (by simp)
theorem c170 {p : Nat} : Yn 170 [.ptr p 0 0 0] p [] N4 Qm := Zs fun b g body σ off R hrd h0 hl hok herr => by
 rw [Gi]
 delta CL uF nI wvR
 refine c175.Q0 hrd no0 hl (fun a1 o1 q1 l1 m1 _ => ?_) (fun e τ he hs => herr e τ (QN he) hs)
 have w1 : QF [(.int .i64 0),(.int .i64 0),(.int .i64 0),(.int .i64 0),(.bool false)] [(0,1,(.int .i64 a1))] = some [(.int .i64 a1),(.int .i64 0),(.int .i64 0),(.int .i64 0),(.bool false)] := rfl
 have x1 : Qv 5 (.agg [(.int .i64 0),(.int .i64 0),(.int .i64 0),(.int .i64 0),(.bool false)]) 0 (.agg [(.int .i64 a1),(.int .i64 0),(.int .i64 0),(.int .i64 0),(.bool false)]) = some (.agg [(.int .i64 a1),(.int .i64 0),(.int .i64 0),(.int .i64 0),(.bool false)]) := rfl
 simp only [w1,x1,zz,Nat.reduceEqDiff]
 refine c175.Xc hrd m1 no0 hl (fun a2 o2 q2 l2 m2 => ?_) (fun e τ he hs => herr e τ ((Qe q1).trans (QN he)) hs)
 have w2 : Qv 1 (.agg [(.int .i64 a1),(.int .i64 0),(.int .i64 0),(.int .i64 0),(.bool false)]) 1 (.int .i64 a2) = some (.agg [(.int .i64 a1),(.int .i64 a2),(.int .i64 0),(.int .i64 0),(.bool false)]) := rfl
 simp only [w2,zz,Nat.reduceEqDiff]
 refine c175.Xc hrd m2 no0 hl (fun a3 o3 q3 l3 m3 => ?_) (fun e τ he hs => herr e τ ((Qe q1).trans ((Qe q2).trans (QN he))) hs)
 have w3 : Qv 1 (.agg [(.int .i64 a1),(.int .i64 a2),(.int .i64 0),(.int .i64 0),(.bool false)]) 2 (.int .i64 a3) = some (.agg [(.int .i64 a1),(.int .i64 a2),(.int .i64 a3),(.int .i64 0),(.bool false)]) := rfl
 simp only [w3,zz,Nat.reduceEqDiff]
 refine c175.Xc hrd m3 no0 hl (fun a4 o4 q4 l4 m4 => ?_) (fun e τ he hs => herr e τ ((Qe q1).trans ((Qe q2).trans ((Qe q3).trans (QN he)))) hs)
 have w4 : Qv 1 (.agg [(.int .i64 a1),(.int .i64 a2),(.int .i64 a3),(.int .i64 0),(.bool false)]) 3 (.int .i64 a4) = some (.agg [(.int .i64 a1),(.int .i64 a2),(.int .i64 a3),(.int .i64 a4),(.bool false)]) := rfl
 simp only [w4,zz,Nat.reduceEqDiff]
 refine vr.Xc hrd m4 no0 hl (fun a5 o5 q5 l5 m5 => ?_) (fun e τ he hs => herr e τ ((Qe q1).trans ((Qe q2).trans ((Qe q3).trans ((Qe q4).trans (QN he))))) hs)
 have w5 : Qv 1 (.agg [(.int .i64 a1),(.int .i64 a2),(.int .i64 a3),(.int .i64 a4),(.bool false)]) 4 (.bool a5) = some (.agg [(.int .i64 a1),(.int .i64 a2),(.int .i64 a3),(.int .i64 a4),(.bool a5)]) := rfl
 have y : Q6 true 5 (.agg [(.int .i64 a1),(.int .i64 a2),(.int .i64 a3),(.int .i64 a4),(.bool a5)]) 0 = some (.agg [(.int .i64 a1),(.int .i64 a2),(.int .i64 a3),(.int .i64 a4),(.bool a5)]) := rfl
 have x : Qv 5 (.agg [(.int .i64 0),(.int .i64 0),(.int .i64 0),(.int .i64 0),(.bool false)]) 0 (.agg [(.int .i64 a1),(.int .i64 a2),(.int .i64 a3),(.int .i64 a4),(.bool a5)]) = some (.agg [(.int .i64 a1),(.int .i64 a2),(.int .i64 a3),(.int .i64 a4),(.bool a5)]) := rfl
 simp only [w5,y,x,zz,Nat.reduceEqDiff]
 exact Q2 (hok ⟨a1,a2,a3,a4,a5⟩ _ ((Qe q1).trans ((Qe q2).trans ((Qe q3).trans ((Qe q4).trans (Qe q5))))) (by omega) m5)
theorem c174 {p q : Nat} : Yn 174 [.ptr q 0 0 0] p [(q,cell p)] PO Qw := Zs fun b g body σ off R hrd h0 hl hok herr => by
 rw [Fi]
 delta Be uF nI wvR
 have hq := of1 h0
 simp only [On hq.1,zz,Nat.reduceEqDiff]
 refine c175.Q0 hrd no0 hl (fun a1 o1 q1 l1 m1 _ => ?_) (fun e τ he hs => herr e τ (QN he) hs)
 have w1 : QF [(.int .i64 0),(.int .i64 0)] [(0,1,(.int .i64 a1))] = some [(.int .i64 a1),(.int .i64 0)] := rfl
 have x1 : Qv 2 (.agg [(.int .i64 0),(.int .i64 0)]) 0 (.agg [(.int .i64 a1),(.int .i64 0)]) = some (.agg [(.int .i64 a1),(.int .i64 0)]) := rfl
 simp only [w1,x1,XH hq,zz,Nat.reduceEqDiff]
 refine c175.Xc hrd m1 no0 hl (fun a2 o2 q2 l2 m2 => ?_) (fun e τ he hs => herr e τ ((Qe q1).trans (QN he)) hs)
 have w2 : Qv 1 (.agg [(.int .i64 a1),(.int .i64 0)]) 1 (.int .i64 a2) = some (.agg [(.int .i64 a1),(.int .i64 a2)]) := rfl
 have y : Q6 true 2 (.agg [(.int .i64 a1),(.int .i64 a2)]) 0 = some (.agg [(.int .i64 a1),(.int .i64 a2)]) := rfl
 have x : Qv 2 (.agg [(.int .i64 0),(.int .i64 0)]) 0 (.agg [(.int .i64 a1),(.int .i64 a2)]) = some (.agg [(.int .i64 a1),(.int .i64 a2)]) := rfl
 simp only [w2,y,x,XH hq,zz,Nat.reduceEqDiff]
 exact Q2 (hok (a1,a2) _ ((Qe q1).trans (Qe q2)) (by omega) m2)
theorem c186 {p q : Nat} : Yn 186 [.ptr q 0 0 0] p [(q,cell p)] PO Qw := Zs fun b g body σ off R hrd h0 hl hok herr => by
 rw [E3]
 delta CB uF nI wvR
 have hq := of1 h0
 simp only [On hq.1,zz,Nat.reduceEqDiff]
 refine c175.Q0 hrd no0 hl (fun a1 o1 q1 l1 m1 _ => ?_) (fun e τ he hs => herr e τ (QN he) hs)
 have w1 : QF [(.int .i64 0),(.int .i64 0)] [(0,1,(.int .i64 a1))] = some [(.int .i64 a1),(.int .i64 0)] := rfl
 have x1 : Qv 2 (.agg [(.int .i64 0),(.int .i64 0)]) 0 (.agg [(.int .i64 a1),(.int .i64 0)]) = some (.agg [(.int .i64 a1),(.int .i64 0)]) := rfl
 simp only [w1,x1,XH hq,zz,Nat.reduceEqDiff]
 refine c175.Xc hrd m1 no0 hl (fun a2 o2 q2 l2 m2 => ?_) (fun e τ he hs => herr e τ ((Qe q1).trans (QN he)) hs)
 have w2 : Qv 1 (.agg [(.int .i64 a1),(.int .i64 0)]) 1 (.int .i64 a2) = some (.agg [(.int .i64 a1),(.int .i64 a2)]) := rfl
 have y : Q6 true 2 (.agg [(.int .i64 a1),(.int .i64 a2)]) 0 = some (.agg [(.int .i64 a1),(.int .i64 a2)]) := rfl
 have x : Qv 2 (.agg [(.int .i64 0),(.int .i64 0)]) 0 (.agg [(.int .i64 a1),(.int .i64 a2)]) = some (.agg [(.int .i64 a1),(.int .i64 a2)]) := rfl
 simp only [w2,y,x,XH hq,zz,Nat.reduceEqDiff]
 exact Q2 (hok (a1,a2) _ ((Qe q1).trans (Qe q2)) (by omega) m2)
theorem c183 {p q : Nat} : Yn 183 [.ptr q 0 0 0] p [(q,cell p)] Ux QY := Zs fun b g body σ off R hrd h0 hl hok herr => by
 rw [FK]
 delta CR uF nI wvR
 have hq := of1 h0
 simp only [On hq.1,zz,Nat.reduceEqDiff]
 refine xB.Q0 hrd no0 hl (fun a1 o1 q1 l1 m1 _ => ?_) (fun e τ he hs => herr e τ (QN he) hs)
 have w1 : QF [(.str []),(.bool false),(.int .i64 0)] [(0,1,(.str a1))] = some [(.str a1),(.bool false),(.int .i64 0)] := rfl
 have x1 : Qv 3 (.agg [(.str []),(.bool false),(.int .i64 0)]) 0 (.agg [(.str a1),(.bool false),(.int .i64 0)]) = some (.agg [(.str a1),(.bool false),(.int .i64 0)]) := rfl
 simp only [w1,x1,XH hq,zz,Nat.reduceEqDiff]
 refine vr.Xc hrd m1 no0 hl (fun a2 o2 q2 l2 m2 => ?_) (fun e τ he hs => herr e τ ((Qe q1).trans (QN he)) hs)
 have w2 : Qv 1 (.agg [(.str a1),(.bool false),(.int .i64 0)]) 1 (.bool a2) = some (.agg [(.str a1),(.bool a2),(.int .i64 0)]) := rfl
 simp only [w2,XH hq,zz,Nat.reduceEqDiff]
 refine c175.Xc hrd m2 no0 hl (fun a3 o3 q3 l3 m3 => ?_) (fun e τ he hs => herr e τ ((Qe q1).trans ((Qe q2).trans (QN he))) hs)
 have w3 : Qv 1 (.agg [(.str a1),(.bool a2),(.int .i64 0)]) 2 (.int .i64 a3) = some (.agg [(.str a1),(.bool a2),(.int .i64 a3)]) := rfl
 have y : Q6 true 3 (.agg [(.str a1),(.bool a2),(.int .i64 a3)]) 0 = some (.agg [(.str a1),(.bool a2),(.int .i64 a3)]) := rfl
 have x : Qv 3 (.agg [(.str []),(.bool false),(.int .i64 0)]) 0 (.agg [(.str a1),(.bool a2),(.int .i64 a3)]) = some (.agg [(.str a1),(.bool a2),(.int .i64 a3)]) := rfl
 simp only [w3,y,x,XH hq,zz,Nat.reduceEqDiff]
 exact Q2 (hok ⟨a1,a2,a3⟩ _ ((Qe q1).trans ((Qe q2).trans (Qe q3))) (by omega) m3)
theorem c254 {p q : Nat} : Yn 254 [.ptr q 0 0 0] p [(q,cell p)] Vp X7 := Zs fun b g body σ off R hrd h0 hl hok herr => by
 rw [Fx]
 delta B3 uF nI wvR
 have hq := of1 h0
 simp only [On hq.1,zz,Nat.reduceEqDiff]
 refine c175.Q0 hrd no0 hl (fun a1 o1 q1 l1 m1 _ => ?_) (fun e τ he hs => herr e τ (QN he) hs)
 have w1 : QF [(.int .i64 0),(.int .i64 0),(.int .i64 0)] [(0,1,(.int .i64 a1))] = some [(.int .i64 a1),(.int .i64 0),(.int .i64 0)] := rfl
 have x1 : Qv 3 (.agg [(.int .i64 0),(.int .i64 0),(.int .i64 0)]) 0 (.agg [(.int .i64 a1),(.int .i64 0),(.int .i64 0)]) = some (.agg [(.int .i64 a1),(.int .i64 0),(.int .i64 0)]) := rfl
 simp only [w1,x1,XH hq,zz,Nat.reduceEqDiff]
 refine c175.Xc hrd m1 no0 hl (fun a2 o2 q2 l2 m2 => ?_) (fun e τ he hs => herr e τ ((Qe q1).trans (QN he)) hs)
 have w2 : Qv 1 (.agg [(.int .i64 a1),(.int .i64 0),(.int .i64 0)]) 1 (.int .i64 a2) = some (.agg [(.int .i64 a1),(.int .i64 a2),(.int .i64 0)]) := rfl
 simp only [w2,XH hq,zz,Nat.reduceEqDiff]
 refine c175.Xc hrd m2 no0 hl (fun a3 o3 q3 l3 m3 => ?_) (fun e τ he hs => herr e τ ((Qe q1).trans ((Qe q2).trans (QN he))) hs)
 have w3 : Qv 1 (.agg [(.int .i64 a1),(.int .i64 a2),(.int .i64 0)]) 2 (.int .i64 a3) = some (.agg [(.int .i64 a1),(.int .i64 a2),(.int .i64 a3)]) := rfl
 have y : Q6 true 3 (.agg [(.int .i64 a1),(.int .i64 a2),(.int .i64 a3)]) 0 = some (.agg [(.int .i64 a1),(.int .i64 a2),(.int .i64 a3)]) := rfl
 have x : Qv 3 (.agg [(.int .i64 0),(.int .i64 0),(.int .i64 0)]) 0 (.agg [(.int .i64 a1),(.int .i64 a2),(.int .i64 a3)]) = some (.agg [(.int .i64 a1),(.int .i64 a2),(.int .i64 a3)]) := rfl
 simp only [w3,y,x,XH hq,zz,Nat.reduceEqDiff]
 exact Q2 (hok ⟨a1,a2,a3⟩ _ ((Qe q1).trans ((Qe q2).trans (Qe q3))) (by omega) m3)
end Go.Proofs.YtgghfcchanilpaaGreatDoor
