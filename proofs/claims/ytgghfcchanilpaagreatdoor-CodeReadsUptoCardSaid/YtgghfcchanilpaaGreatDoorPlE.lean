import Derived.Test.YtgghfcchanilpaaGreatDoorSpK
import Derived.Test.YtgghfcchanilpaaGreatDoorSpD
set_option linter.unusedVariables false
set_option linter.unusedSimpArgs false
namespace Go.Proofs.YtgghfcchanilpaaGreatDoor
open Go Go.Abs
theorem Z9 {n : St} {α : Type} {F : ((Nat → PV) → St → Prop) → (Nat → PV) → St → Prop} (l : List α) (q : α → Bool) (mk : Nat → Nat → PV) (σ : St) {x0 : Nat → PV} (h0 : x0 = mk 0)
  (hend : l.any q = false → ∀ Φ : (Nat → PV) → St → Prop,F Φ (mk l.length) σ)
  (step : ∀ (Φ : (Nat → PV) → St → Prop) (j : Nat) (a : α),l[j]? = some a → a ∈ l → j < l.length → (q a = true → l.any q = true) → (q a = false → Φ (mk (j + 1)) σ) → F Φ (mk j) σ) : Lfp n F x0 σ := by
 refine QT l.length (fun j x σ' => x = mk j ∧ σ' = σ ∧ (l.take j).any q = false) ?_ ⟨h0,rfl,rfl⟩
 rintro Φ j x σ' hj ⟨rfl,rfl,hp⟩ next
 by_cases hlt : j < l.length
 ·have hg : l[j]? = some l[j] := by simp [hlt]
  refine step Φ j l[j] hg (by simp) hlt (fun h => Tk hg (q := q) h) fun hb => ?_
  exact next _ _ hlt ⟨rfl,rfl,U9 hp hg hb⟩
 ·obtain rfl : j = l.length := by omega
  rw [List.take_length] at hp
  exact hend hp Φ
theorem Vt {n j : Nat} (h : j < n) : decide ((j : Int) < (n : Int)) = true := decide_eq_true (by omega)
theorem Z0 (n : Nat) : decide ((n : Int) < (n : Int)) = false := decide_eq_false (by omega)
theorem Xk {α : Type} {l : Sl α} {j : Nat} (h : j < l.2.length) : decide ((j : Int) < len l) = true := Vt h
theorem QG {α : Type} (l : Sl α) : decide ((l.2.length : Int) < len l) = false := Z0 _
theorem DH (m : Sl Xb) : Qv 1 (.agg [(.list .nil [])]) 0 (Xj m) = some (Xj m) := rfl
theorem Gy (s : Xb) : Qv 5 (.agg [(.int .i64 0),(.int .i64 0),(.int .i64 0),(.int .i64 0),(.bool false)]) 0 (Qm s) = some (Qm s) := rfl
theorem OI (s : Xb) : Q6 true 5 (Qm s) 0 = some (Qm s) := rfl
theorem V2 (m : Sl Xb) : Q6 false 1 (Xj m) 0 = some (QB Qm m) := rfl
theorem c59 {c : Qp} (hc : VX c) (r i : Int) (σ : St) : Ret W 59 [X2 c r i] σ (.int .i64 (if Yt c then 13 else 0)) := by
 refine QE fun R hR => ?_
 rw [Dl]
 delta xu bF pF uF kF nI nL
 simp only [QU,Ql,zz,Nat.reduceEqDiff]
 have hm := hc.maps
 refine Z9 c.maps.2 (fun m => m.2.any fun s => !T9 c s) (fun j => Qz [(9,QB Xj c.maps),(10,.int .i64 (len c.maps)),(11,.int .i64 j),(1,X2 c r i)]) σ rfl (fun hb Φ => ?_) (fun Φ j m hg hmem hj hit next => ?_)
 ·simp only [QG,zz,Nat.reduceEqDiff]
  unfold Yt at hR
  rw [hb] at hR
  exact Q2 hR
 ·have hs := hc.slots m hmem
  simp only [Xk hj,QV Ze hg,Ze.part,DH,V2,Ql,List.length_map,zz,Nat.reduceEqDiff]
  refine Z9 m.2 (fun s => !T9 c s) (fun k => Qz [(9,QB Xj c.maps),(10,.int .i64 (len c.maps)),(11,.int .i64 j),(16,QB Qm m),(17,.int .i64 (m.2.length : Nat)),(18,.int .i64 k),(1,X2 c r i)]) σ rfl (fun hb Ψ => ?_) (fun Ψ k s hg' hmem' hk hit' next' => ?_)
  ·simp only [Nat.lt_irrefl,decide_false,zz,Nat.reduceEqDiff]
   rw [Qi _ (by omega) (by omega)]
   simp only [zz,Nat.reduceEqDiff]
   exact next hb
  ·simp only [hk,decide_true,QV Tz hg',Gy,OI,QU,zz,Nat.reduceEqDiff]
   refine (c112 _ _ _ _).Q0 ?_
   simp only [zz,Nat.reduceEqDiff]
   refine Qu (fun hb => ?_) (fun hb => ?_)
   ·have := hit (hit' hb)
    unfold Yt at hR
    rw [this] at hR
    exact Q2 hR
   ·rw [Qi _ (by omega) (by omega)]
    simp only [zz,Nat.reduceEqDiff]
    exact next' hb
theorem c115 (l : Sl Int) (σ : St) : Ret W 115 [QP l] σ (.bool (decide (len l = 0))) := by
 refine QE fun R hR => ?_
 rw [Er]
 delta Bi bF nI
 unfold QP
 simp only [Ql,zz,Nat.reduceEqDiff]
 exact Q2 hR
def Ir (σ : St) (c : Qp) (r i : Int) : St := σ ++ [.arr 0 12 [X2 c r i]]
theorem fld (n g i : Nat) (o k : Nat) : Qh k (.ptr n g i o) = some (.ptr n g i (o + k)) := rfl
theorem ldA (σ : St) (c : Qp) (r i : Int) : Q4 false 1 (.ptr σ.length 0 0 0) (Ir σ c r i) = some (QB Xj c.maps) ∧ Q4 false 1 (.ptr σ.length 0 0 1) (Ir σ c r i) = some (QB QP c.unions) ∧ Q4 false 1 (.ptr σ.length 0 0 2) (Ir σ c r i) = some (QB Qw c.sigs) := by
 unfold Ir
 simp only [Q4,Sv]
 exact ⟨rfl,rfl,rfl⟩
theorem c114 {c : Qp} (σ : St) (r i : Int) (m : Int) : Ret W 114 [.int .i64 m,.ptr σ.length 0 0 0] (Ir σ c r i) (.bool (!inS m (len c.maps))) := by
 refine QE fun R hR => ?_
 rw [FE]
 delta Cz
 simp only [fld,ldA,Ql,zz,Nat.reduceEqDiff,Nat.reduceAdd]
 refine (c42 _ _ _).Q0 ?_
 simp only [zz,Nat.reduceEqDiff]
 exact Q2 hR
theorem T2 (p : Int × Int) : Q6 false 1 (Qw p) 0 = some (.int .i64 p.1) ∧ Q6 false 1 (Qw p) 1 = some (.int .i64 p.2) ∧ Qv 2 (.agg [.int .i64 0,.int .i64 0]) 0 (Qw p) = some (Qw p) := ⟨rfl,rfl,rfl⟩
theorem c60 {c : Qp} (hc : VX c) (r i : Int) (σ : St) : Ret W 60 [X2 c r i] σ (.int .i64 (YJ c)) := by
 refine QE fun R hR => ?_
 rw [Ck]
 delta xO bF pF gF kF nI
 have hu := hc.unions
 have hs := hc.sigs
 have h012 : (0 : Nat) < 12 := by omega
 have hn : σ ++ [.arr 0 12 [X2 c r i]] = Ir σ c r i := rfl
 have fin : ∀ n : Int,YJ c = n → XG σ (.int .i64 n) (Ir σ c r i) fun v σ => R (.ret v) σ := fun n hb => by
  rw [hb] at hR
  exact Yi (List.prefix_append _ _) (Se (.int _ _)) hR
 clear hR
 simp only [QU,Ql,Vo,h012,if_true,hn,fld,ldA,zz,Nat.reduceEqDiff,Nat.reduceAdd]
 refine Z9 c.unions.2 (fun u => u.2.any fun m => !inS m (len c.maps)) (fun j => Qz [(1,.ptr σ.length 0 0 0),(9,QB QP c.unions),(10,.int .i64 (len c.unions)),(11,.int .i64 j)]) _ rfl (fun hb Φ => ?_) (fun Φ j u hg hmem hj hit next => ?_)
 case refine_2 =>
  have hul := hc.union u hmem
  simp only [Xk hj,hj,decide_true,QV Xo hg,Xo.part,zz,Nat.reduceEqDiff]
  refine (Ew encI (fun m => !inS m (len c.maps)) (by kernel_rfl) (by omega) (fun m _ => c114 σ r i m)).Q0 ?_
  refine Qu (fun hb => ?_) (fun hb => ?_)
  ·refine fin _ ?_
   have := hit hb
   simp only [YJ,Vi,this,if_true]
  ·rw [Qi _ (by omega) (by omega)]
   simp only [zz,Nat.reduceEqDiff]
   exact next hb
 simp only [QG,Nat.lt_irrefl,decide_false,fld,ldA,Ql,zz,Nat.reduceEqDiff,Nat.reduceAdd]
 refine Z9 c.sigs.2 (fun p => !inS p.1 (len c.maps) || !inS p.2 (len c.maps)) (fun j => Qz [(1,.ptr σ.length 0 0 0),(21,QB Qw c.sigs),(22,.int .i64 (len c.sigs)),(23,.int .i64 j)]) _ rfl (fun hb2 Ψ => ?_) (fun Ψ j p hg hmem hj hit next => ?_)
 case refine_2 =>
  simp only [Xk hj,hj,decide_true,QV ZB hg,ZB.part,T2,fld,ldA,Ql,zz,Nat.reduceEqDiff,Nat.reduceAdd]
  refine (c42 _ _ _).Q0 ?_
  simp only [zz,Nat.reduceEqDiff]
  refine orG (!inS p.2 (len c.maps)) (fun _ J hJ => ?_) ?_
  ·simp only [ldA,Ql,zz,Nat.reduceEqDiff]
   refine (c42 _ _ _).Q0 ?_
   simp only [zz,Nat.reduceEqDiff]
   exact hJ _ rfl
  refine Qu (fun hb => ?_) (fun hb => ?_)
  ·refine fin _ ?_
   have := hit hb
   simp only [YJ,Vi,YE,this,if_true]
   split <;> rfl
  ·rw [Qi _ (by omega) (by omega)]
   simp only [zz,Nat.reduceEqDiff]
   exact next hb
 simp only [QG,Nat.lt_irrefl,decide_false,fld,ldA,Ql,zz,Nat.reduceEqDiff,Nat.reduceAdd]
 refine (vG Xo (fun u => decide (len u = 0)) (by kernel_rfl) (by omega) (fun m _ => c115 m _)).Q0 ?_
 refine Qu (fun hb3 => ?_) (fun hb3 => ?_)
 ·refine fin _ ?_
  simp only [YJ,Vi,YE,VD,hb,hb2,hb3,if_true,Bool.false_eq_true,if_false]
 ·refine fin _ ?_
  simp only [YJ,Vi,YE,VD,hb,hb2,hb3,if_true,Bool.false_eq_true,if_false]
def VO (c : Qp) : Int := if Yt c then 13 else YJ c
theorem Zx (e : PV) (o k : Nat) : Qh k (.eptr e o) = some (.eptr e (o + k)) := rfl
theorem H9 (p : Int × Int) : Q6 false 1 (Qw p) 0 = some (.int .i64 p.1) ∧ Q6 false 1 (Qw p) 1 = some (.int .i64 p.2) := ⟨rfl,rfl⟩
theorem c65 {c : Qp} (hc : VX c) (σ : St) : Ret W 65 [Qt c] σ (.int .i64 (VO c)) := by
 refine QE fun R hR => ?_
 rw [DT]
 delta zj bF pF gF kF nI
 have hm := hc.maps
 have hu := hc.unions
 have hs := hc.sigs
 have fin : ∀ n : Int,VO c = n → XG σ (.int .i64 n) σ fun v σ => R (.ret v) σ := fun n hb => by
  rw [hb] at hR
  exact Q2 hR
 clear hR
 simp only [Qf,zz,Nat.reduceEqDiff]
 refine Qr (fun x τ => x 1 = Qt c ∧ τ = σ ∧ Yt c = false) (fun x τ hx => ?_) ?_
 case refine_2 =>
  refine Z9 c.maps.2 (fun m => m.2.any fun s => !T9 c s) (fun j => Qz [(3,.int .i64 j),(1,Qt c)]) _ rfl (fun hb Φ => ?_) (fun Φ j m hg hmem hj hit next => ?_)
  ·simp only [Qf,Ql,QG,Nat.lt_irrefl,decide_false,zz,Nat.reduceEqDiff]
   exact ⟨trivial,trivial,hb⟩
  have hml := hc.slots m hmem
  simp only [Qf,Ql,Xk hj,hj,decide_true,zz,Nat.reduceEqDiff]
  refine Qr (fun x τ => x 1 = Qt c ∧ x 3 = .int .i64 j ∧ τ = σ ∧ (m.2.any fun s => !T9 c s) = false) (fun x τ hx => ?_) ?_
  ·obtain ⟨h1,h3,rfl,hb⟩ := hx
   simp only [h1,h3]
   rw [Qi _ (by omega) (by omega)]
   simp only [zz,Nat.reduceEqDiff]
   exact next hb
  refine Z9 m.2 (fun s => !T9 c s) (fun k => Qz [(3,.int .i64 j),(4,.int .i64 k),(1,Qt c)]) _ rfl (fun hb Ψ => ?_) (fun Ψ k s hg' hmem' hk hit' next' => ?_)
  ·simp only [Qf,Ql,QV Ze hg,Zx,V2,QG,Nat.lt_irrefl,decide_false,zz,Nat.reduceEqDiff,Nat.reduceAdd]
   exact ⟨trivial,trivial,trivial,hb⟩
  ·simp only [Qf,Ql,QV Ze hg,Zx,V2,QV Tz hg',OI,Xk hk,hk,decide_true,zz,Nat.reduceEqDiff,Nat.reduceAdd]
   refine (c123 _ _).Q0 ?_
   simp only [zz,Nat.reduceEqDiff]
   refine Qu (fun hb => ?_) (fun hb => ?_)
   ·refine fin _ ?_
    have := hit (hit' hb)
    simp only [VO,Yt,this,if_true]
   ·rw [Qi _ (by omega) (by omega)]
    simp only [zz,Nat.reduceEqDiff]
    exact next' hb
 obtain ⟨h1,rfl,hsb⟩ := hx
 simp only [h1]
 clear h1 x
 refine Qr (fun x τ' => x 1 = Qt c ∧ τ' = τ ∧ Vi c = false) (fun x τ' hx => ?_) ?_
 case refine_2 =>
  refine Z9 c.unions.2 (fun m => m.2.any fun s => !inS s (len c.maps)) (fun j => Qz [(5,.int .i64 j),(1,Qt c)]) _ rfl (fun hb Φ => ?_) (fun Φ j m hg hmem hj hit next => ?_)
  ·simp only [Qf,Ql,QG,Nat.lt_irrefl,decide_false,zz,Nat.reduceEqDiff]
   exact ⟨trivial,trivial,hb⟩
  have hml := hc.union m hmem
  simp only [Qf,Ql,Xk hj,hj,decide_true,zz,Nat.reduceEqDiff]
  refine Qr (fun x τ' => x 1 = Qt c ∧ x 5 = .int .i64 j ∧ τ' = τ ∧ (m.2.any fun s => !inS s (len c.maps)) = false) (fun x τ' hx => ?_) ?_
  ·obtain ⟨h1,h3,rfl,hb⟩ := hx
   simp only [h1,h3]
   rw [Qi _ (by omega) (by omega)]
   simp only [zz,Nat.reduceEqDiff]
   exact next hb
  refine Z9 m.2 (fun s => !inS s (len c.maps)) (fun k => Qz [(5,.int .i64 j),(6,.int .i64 k),(1,Qt c)]) _ rfl (fun hb Ψ => ?_) (fun Ψ k s hg' hmem' hk hit' next' => ?_)
  ·simp only [Qf,QV Xo hg,Xo.part,zz,Nat.reduceEqDiff]
   unfold QP
   simp only [Ql,QG,Nat.lt_irrefl,decide_false,zz,Nat.reduceEqDiff]
   exact ⟨trivial,trivial,trivial,hb⟩
  ·have hi : Q5 1 (QP m) (.int .i64 k) = some (.eptr (pvI s) 0) := QV encI hg'
   have hl : Qj .sl (QP m) τ = some (.int .i64 (len m)) := Ql _ _ _
   simp only [Qf,QV Xo hg,Xo.part,hl,hi,encI.part,Ql,Xk hk,hk,decide_true,zz,Nat.reduceEqDiff,Nat.reduceAdd]
   refine (c75 _ _ _).Q0 ?_
   simp only [zz,Nat.reduceEqDiff]
   refine Qu (fun hb => ?_) (fun hb => ?_)
   ·refine fin _ ?_
    have := hit (hit' hb)
    simp only [VO,YJ,Vi,hsb,this,if_true,Bool.false_eq_true,if_false]
   ·rw [Qi _ (by omega) (by omega)]
    simp only [zz,Nat.reduceEqDiff]
    exact next' hb
 obtain ⟨h1,rfl,hub⟩ := hx
 simp only [h1]
 clear h1 x
 refine Qr (fun x τ => x 1 = Qt c ∧ τ = τ' ∧ YE c = false) (fun x τ hx => ?_) ?_
 case refine_2 =>
  refine Z9 c.sigs.2 (fun p => !inS p.1 (len c.maps) || !inS p.2 (len c.maps)) (fun j => Qz [(7,.int .i64 j),(1,Qt c)]) _ rfl (fun hb Φ => ?_) (fun Φ j p hg hmem hj hit next => ?_)
  ·simp only [Qf,Ql,QG,Nat.lt_irrefl,decide_false,zz,Nat.reduceEqDiff]
   exact ⟨trivial,trivial,hb⟩
  simp only [Qf,Ql,Xk hj,hj,decide_true,QV ZB hg,Zx,H9,zz,Nat.reduceEqDiff,Nat.reduceAdd]
  refine (c75 _ _ _).Q0 ?_
  simp only [zz,Nat.reduceEqDiff]
  refine orG (!inS p.2 (len c.maps)) (fun _ J hJ => ?_) ?_
  ·refine (c75 _ _ _).Q0 ?_
   simp only [zz,Nat.reduceEqDiff]
   exact hJ _ rfl
  refine Qu (fun hb => ?_) (fun hb => ?_)
  ·refine fin _ ?_
   have := hit hb
   simp only [VO,YJ,YE,hsb,hub,this,if_true,Bool.false_eq_true,if_false]
  ·rw [Qi _ (by omega) (by omega)]
   simp only [zz,Nat.reduceEqDiff]
   exact next hb
 obtain ⟨h1,rfl,hgb⟩ := hx
 simp only [h1]
 clear h1 x
 refine Qr (fun x τ' => τ' = τ ∧ VD c = false) (fun x τ' hx => ?_) ?_
 case refine_2 =>
  refine Z9 c.unions.2 (fun u => decide (len u = 0)) (fun j => Qz [(8,.int .i64 j),(1,Qt c)]) _ rfl (fun hb Φ => ?_) (fun Φ j m hg hmem hj hit next => ?_)
  ·simp only [Qf,Ql,QG,Nat.lt_irrefl,decide_false,zz,Nat.reduceEqDiff]
   exact ⟨trivial,hb⟩
  have hl : Qj .sl (QP m) τ = some (.int .i64 (len m)) := Ql _ _ _
  simp only [Qf,Ql,Xk hj,hj,decide_true,QV Xo hg,Xo.part,hl,zz,Nat.reduceEqDiff]
  refine Qu (fun hb => ?_) (fun hb => ?_)
  ·refine fin _ ?_
   have := hit (by simpa using hb)
   simp only [VO,YJ,VD,hsb,hub,hgb,this,if_true,Bool.false_eq_true,if_false]
  ·rw [Qi _ (by omega) (by omega)]
   simp only [zz,Nat.reduceEqDiff]
   exact next (by simpa using hb)
 obtain ⟨rfl,heb⟩ := hx
 refine fin _ ?_
 simp only [VO,YJ,hsb,hub,hgb,heb,Bool.false_eq_true,if_false]
end Go.Proofs.YtgghfcchanilpaaGreatDoor
namespace Go.Abs
def ZE : Vv := ⟨0,0,0,0,0,0,0,0,(.nil,[])⟩
def rAt (c : Qp) (i : Int) : Vv := atI ZE c.routs i
def mAt (c : Qp) (i : Int) : Sl Xb := atI (.nil,[]) c.maps i
def sAt (c : Qp) (i : Int) : Int × Int := atI (0,0) c.sigs i
def ZK (e : Nat → Int) : Nat → Int
 | 0 => 0
 | n + 1 => if ZK e n ≠ 0 then ZK e n else e n
theorem XZ {e : Nat → Int} : ∀ {n : Nat},(∀ k,k < n → e k = 0) → ZK e n = 0
 | 0,_ => rfl
 | n + 1,h => by
  have h1 : ZK e n = 0 := XZ fun k hk => h k (by omega)
  simp only [ZK,h1,ne_eq,not_true,if_false]
  exact h n (by omega)
theorem NY {e : Nat → Int} : ∀ {n : Nat},ZK e n = 0 → ∀ k,k < n → e k = 0
 | 0,_,k,hk => by omega
 | n + 1,h,k,hk => by
  simp only [ZK] at h
  by_cases h1 : ZK e n = 0
  ·simp only [h1,ne_eq,not_true,if_false] at h
   rcases Nat.lt_succ_iff_lt_or_eq.1 hk with hk | rfl
   ·exact NY h1 k hk
   ·exact h
  ·simp only [ne_eq,h1,not_false_iff,if_true] at h
theorem OC {e : Nat → Int} {j : Nat} (hp : ∀ k,k < j → e k = 0) (he : e j ≠ 0) : ∀ {n : Nat},j < n → ZK e n = e j
 | 0,h => by omega
 | n + 1,h => by
  rcases Nat.lt_succ_iff_lt_or_eq.1 h with h | rfl
  ·have := OC hp he h
   simp only [ZK,this,ne_eq,he,not_false_iff,if_true]
  ·have h1 : ZK e j = 0 := XZ hp
   simp only [ZK,h1,ne_eq,not_true,if_false]
def Y9 (c : Qp) : Nat → Int → Int
 | 0,r => r
 | n + 1,r => if r < 0 then r else Y9 c n (rAt c r).outer
def Z8 (c : Qp) (i : Nat) : Bool :=
 !inS (rAt c i).sig (len c.sigs) || !inS (rAt c i).frame (len c.maps) || ((i : Int) == 0 && !((rAt c i).outer == -1)) || (decide ((i : Int) > 0) && !inS (rAt c i).outer i)
def YQ (c : Qp) (i : Nat) : Int := if (i : Int) > 0 then (rAt c (i - 1 : Nat)).to else 0
def Vx (c : Qp) (i : Nat) : Bool :=
 !((rAt c i).fr == YQ c i) || decide ((rAt c i).to ≤ (rAt c i).fr) || ((i : Int) == len c.routs - 1 && !((rAt c i).to == len c.insts))
def V1 (c : Qp) (i : Nat) : List Xb := (mAt c (sAt c (rAt c i).sig).2).2
def UK (c : Qp) (i : Nat) : List Xb := (mAt c (sAt c (rAt c i).sig).1).2
def Y4 (c : Qp) (i : Nat) : List Xb := (mAt c (rAt c i).frame).2
def Ya (c : Qp) (i : Nat) : Bool :=
 ((i : Int) == 0 && decide (((V1 c i ++ UK c i).length : Int) > 0)) || decide ((Y4 c i).length < (V1 c i ++ UK c i).length) || !decide ((Y4 c i).take (V1 c i ++ UK c i).length = V1 c i ++ UK c i)
def Ub (n m : Int) (k : Nat) (g : Yq) : Int :=
 if ((k : Int) == 0 && !(g.outer == -1)) || (decide ((k : Int) > 0) && !inS g.outer k) then 10
 else if decide (g.fr < n) || decide (g.fr > g.to) || decide (g.to > m) then 11 else 0
def TI : Yq := ⟨0,0,0⟩
def SA (c : Qp) (i : Nat) : Int := ZK (fun k => Ub (V1 c i).length (Y4 c i).length k ((rAt c i).ranges.2.getD k TI)) (rAt c i).ranges.2.length
def PF (c : Qp) (i : Nat) : Bool :=
 ((i : Int) == 0 && !((rAt c i).within == -1)) || (decide ((i : Int) > 0) && !inS (rAt c i).within (len (rAt c (rAt c i).outer).ranges)) || decide ((rAt c i).level < 0) || ((rAt c i).level == 0 && !((rAt c i).needs == 0))
def PZ (c : Qp) (i : Nat) : Bool :=
 decide (Y9 c (rAt c i).level.toNat i < 0) || !inS (rAt c i).needs (len (rAt c (Y9 c (rAt c i).level.toNat i)).ranges)
def Xy (c : Qp) (i : Nat) : Int :=
 if Z8 c i then 11 else if len (rAt c i).ranges = 0 then 12 else if Vx c i then 10 else if Ya c i then 14
 else if SA c i ≠ 0 then SA c i else if PF c i then 11 else if (rAt c i).level > 0 then (if PZ c i then 11 else 0) else 0
def YN (c : Qp) : Int := if len c.routs = 0 then 12 else ZK (Xy c) c.routs.2.length
def VF (c : Qp) (i : Nat) : Prop := ∀ k,k ≤ i → -1 ≤ (rAt c k).outer ∧ (rAt c k).outer < k
theorem Mh {c : Qp} {i : Nat} (h : ∀ k,k ≤ i → Z8 c k = false) : VF c i := fun k hk => by
 have := h k hk
 simp only [Z8,Bool.or_eq_false_iff,Bool.and_eq_false_iff,inS] at this
 obtain ⟨⟨-,h3⟩,h4⟩ := this
 by_cases h0 : k = 0
 ·subst h0
  simp at h3
  rw [show ((0 : Nat) : Int) = 0 from rfl] at *
  omega
 ·simp at h4
  omega
theorem NB (c : Qp) {r : Int} (h : r < 0) : ∀ n,Y9 c n r = r
 | 0 => rfl
 | n + 1 => by simp only [Y9,h,if_true]
theorem YI {c : Qp} {i : Nat} (ho : VF c i) : ∀ (n : Nat) (r : Int),-1 ≤ r → r ≤ i → -1 ≤ Y9 c n r ∧ Y9 c n r ≤ r
 | 0,r,h1,h2 => ⟨h1,Int.le_refl _⟩
 | n + 1,r,h1,h2 => by
  simp only [Y9]
  split
  ·exact ⟨h1,Int.le_refl _⟩
  ·have h := ho r.toNat (by omega)
   rw [Int.toNat_of_nonneg (by omega)] at h
   have := YI ho n (rAt c r).outer h.1 (by omega)
   omega
theorem NZ {c : Qp} {i : Nat} (ho : VF c i) : ∀ (n : Nat) (r : Int),-1 ≤ r → r ≤ i → r < n → Y9 c n r = -1
 | 0,r,h1,h2,h3 => by
  simp only [Y9]
  omega
 | n + 1,r,h1,h2,h3 => by
  simp only [Y9]
  split
  ·omega
  ·have h := ho r.toNat (by omega)
   rw [Int.toNat_of_nonneg (by omega)] at h
   exact NZ ho n (rAt c r).outer h.1 (by omega) (by omega)
end Go.Abs
