import Derived.Test.YtgghfcchanilpaaGreatDoorSpQ
set_option linter.unusedVariables false
set_option linter.unusedSimpArgs false
namespace Go.Abs
theorem U4 {c : Qp} {k : Nat} (h : Xy c k = 0) : Z8 c k = false := by
 cases hb : Z8 c k with
 | false => rfl
 | true =>
  simp only [Xy,hb,if_true] at h
  omega
structure Fit (c : Qp) : Prop where
 routs : ∀ i,i < c.routs.2.length → Xy c i = 0
theorem Fit.out {c : Qp} (h : Fit c) {i : Nat} (hi : i < c.routs.2.length) : VF c i := Mh fun k hk => U4 (h.routs k (by omega))
theorem Fit.frame {c : Qp} (h : Fit c) {f : Int} (h0 : 0 ≤ f) (h1 : f < len c.routs) : 0 ≤ (rAt c f).frame ∧ (rAt c f).frame < len c.maps := by
 obtain ⟨n,rfl⟩ := Int.eq_ofNat_of_zero_le h0
 have := U4 (h.routs n (by unfold len at h1; omega))
 simp only [Z8,Bool.or_eq_false_iff,Bool.not_eq_false',inS,Bool.and_eq_true,decide_eq_true_eq] at this
 exact this.1.1.2
def Tr (c : Qp) : Nat → Int → Int × Bool
 | 0,r => (r,true)
 | n + 1,r => if ((decide ((rAt c r).level < 1) || decide ((rAt c r).level > ((n + 1 : Nat) : Int))) || decide ((rAt c r).outer < 0)) = true then (0,false) else Tr c n (rAt c r).outer
def VP (c : Qp) : Nat → Int → Bool
 | 0,_ => true
 | n + 1,r => if (decide ((rAt c r).level < 1) || decide ((rAt c r).level > ((n + 1 : Nat) : Int))) = true then false else VP c n (rAt c r).outer
theorem Sf {c : Qp} {i : Nat} (ho : VF c i) : ∀ (n : Nat) (r : Int),0 ≤ r → r ≤ i → Tr c n r = if Y9 c n r ≥ 0 ∧ VP c n r = true then (Y9 c n r,true) else (0,false)
 | 0,r,h0,h1 => by simp [Tr,Y9,VP,h0]
 | n + 1,r,h0,h1 => by
  have hr : ¬ r < 0 := by omega
  have hk := ho r.toNat (by omega)
  rw [Int.toNat_of_nonneg h0] at hk
  simp only [Tr,Y9,VP,hr,if_false]
  cases hl : (decide ((rAt c r).level < 1) || decide ((rAt c r).level > ((n + 1 : Nat) : Int))) with
  | true => simp
  | false =>
   by_cases hn : (rAt c r).outer < 0
   ·rw [NB c hn]
    have : ¬ (rAt c r).outer ≥ 0 := by omega
    simp [hn,this]
   ·rw [decide_eq_false hn]
    simp only [Bool.or_false,Bool.false_eq_true,if_false]
    exact Sf ho n _ (by omega) (by omega)
def XL (c : Qp) (r n : Int) : Int × Bool := if n < 0 then (r,false) else Tr c n.toNat r
def Xi (c : Qp) (o : Za) (l : Int) (r : Int) : Bool :=
 if o.k = 0 then ((l == 45 || l == 111) && (o.a == 0)) && (o.b == 0)
 else if o.k = 1 then ((l == 115 || l == 111) && (XL c r o.b).2) && inS o.a (len (mAt c (rAt c (XL c r o.b).1).frame))
 else if o.k = 2 then ((l == 114) && (XL c r o.b).2) && inS o.a (len (rAt c (XL c r o.b).1).ranges)
 else false
theorem NQ {c : Qp} {i : Nat} (ho : VF c i) {r n : Int} (h0 : 0 ≤ r) (h1 : r ≤ i) (h : (XL c r n).2 = true) : 0 ≤ (XL c r n).1 ∧ (XL c r n).1 ≤ i := by
 unfold XL at h ⊢
 split at h
 ·cases h
 ·rename_i hn
  rw [if_neg hn]
  rw [Sf ho _ _ h0 h1] at h ⊢
  split at h
  ·rename_i hc
   rw [if_pos hc]
   have := YI ho n.toNat r (by omega) h1
   simp only
   omega
  ·cases h
end Go.Abs
namespace Go.Proofs.YtgghfcchanilpaaGreatDoor
open Go Go.Abs
theorem c228 {c : Qp} {i : Nat} (ho : VF c i) (hi : (i : Int) < len c.routs) (a b : Int) {r n : Int} (h0 : 0 ≤ r) (h1 : r ≤ i) (hn : n < 9223372036854775808) (σ : St) : Ret W 228 [X2 c a b,.int .i64 r,.int .i64 n] σ (S8 (XL c r n)) := by
 refine QE fun R hR => ?_
 rw [F1]
 delta CV bF pF gF kF nI nL
 simp only [QU,zz,Nat.reduceEqDiff]
 unfold XL at hR
 by_cases hb : n < 0
 ·rw [if_pos hb] at hR
  refine Qr (fun x τ => x 1 = .int .i64 r ∧ x 2 = .int .i64 n ∧ τ = σ) (fun x τ hx => ?_) ?_
  ·obtain ⟨h1,h2,rfl⟩ := hx
   have : (n == 0) = false := by simp; omega
   simp only [h1,h2,this,zz,Nat.reduceEqDiff]
   exact Q2 hR
  refine QT 0 (fun j x τ => x = Qz [(1,.int .i64 r),(2,.int .i64 n),(3,X2 c a b)] ∧ τ = σ) ?_ ⟨rfl,rfl⟩
  rintro Φ j x τ hj ⟨rfl,rfl⟩ next
  have e : decide (n > 0) = false := decide_eq_false (by omega)
  simp only [e,zz,Nat.reduceEqDiff]
  exact ⟨trivial,trivial,trivial⟩
 rw [if_neg hb] at hR
 obtain ⟨m,rfl⟩ := Int.eq_ofNat_of_zero_le (Int.not_lt.1 hb)
 rw [Int.toNat_natCast] at hR
 generalize hF : Tr c m r = F at hR
 refine Qr (fun x τ => x 1 = .int .i64 F.1 ∧ x 2 = .int .i64 0 ∧ F.2 = true ∧ τ = σ) (fun x τ hx => ?_) ?_
 ·obtain ⟨h1,h2,h3,rfl⟩ := hx
  unfold S8 at hR
  rw [h3] at hR
  simp only [h1,h2,zz,Nat.reduceEqDiff]
  exact Q2 hR
 refine M0 (fun m x τ => ∃ r : Int,0 ≤ r ∧ r ≤ i ∧ m < 9223372036854775808 ∧ x = Qz [(1,.int .i64 r),(2,.int .i64 m),(3,X2 c a b)] ∧ τ = σ ∧ Tr c m r = F) ?_ m ⟨r,h0,h1,by omega,rfl,rfl,hF⟩
 rintro Φ m x τ ⟨r,h0,h1,hm,rfl,rfl,hF⟩ next _
 simp only [QU,zz,Nat.reduceEqDiff]
 cases m with
 | zero =>
  simp only [Tr] at hF
  have e : decide (((0 : Nat) : Int) > 0) = false := rfl
  subst hF
  simp only [e,zz,Nat.reduceEqDiff]
  exact ⟨trivial,rfl,trivial,trivial⟩
 | succ m =>
  have e : decide (((m + 1 : Nat) : Int) > 0) = true := decide_eq_true (by omega)
  have hk := ho r.toNat (by omega)
  rw [Int.toNat_of_nonneg h0] at hk
  have hix : Q5 9 (QB Qo c.routs) (.int .i64 r) = some (.eptr (Qo (rAt c r)) 0) := Zd X3 ZE h0 (by omega)
  simp only [Tr] at hF
  simp only [e,hix,X3.part,S4,Qy,zz,Nat.reduceEqDiff,Nat.reduceAdd]
  refine orG (decide ((rAt c r).level > ((m + 1 : Nat) : Int))) (fun _ J hJ => ?_) ?_
  ·exact hJ _ rfl
  refine orG (decide ((rAt c r).outer < 0)) (fun _ J hJ => ?_) ?_
  ·exact hJ _ rfl
  refine Qu (fun hb => ?_) (fun hb => ?_)
  ·rw [if_pos hb] at hF
   subst hF
   exact Q2 hR
  ·rw [if_neg (by rw [hb]; simp)] at hF
   simp only [Bool.or_eq_false_iff,decide_eq_false_iff_not] at hb
   rw [Yh _ (by omega) (by omega)]
   simp only [zz,Nat.reduceEqDiff]
   refine next _ _ m (by omega) ⟨(rAt c r).outer,by omega,by omega,by omega,?_,rfl,hF⟩
   congr 4
   simp
theorem OK (o : Za) : opC.vBoxAny (XX o) = some (3,XX o) ∧ Q6 false 1 (XX o) 0 = some (.int .i64 o.k) ∧ Q6 false 1 (XX o) 1 = some (.int .i64 o.a) ∧ Q6 false 1 (XX o) 2 = some (.int .i64 o.b) := ⟨rfl,rfl,rfl,rfl⟩
theorem c118 {c : Qp} (hf : Fit c) {i : Nat} (hi : i < c.routs.2.length) (a b : Int) {r : Int} (h0 : 0 ≤ r) (h1 : r ≤ i) (o : Za) (ho : o.b < 9223372036854775808) (l : Int) (σ : St) : Ret W 118 [X2 c a b,XX o,.int .u8 l,.int .i64 r] σ (.bool (Xi c o l r)) := by
 refine QE fun R hR => ?_
 rw [EI]
 delta B6 bF pF gF nI
 have hout := hf.out hi
 have hlen : (i : Int) < len c.routs := by unfold len; omega
 have fin : ∀ b : Bool,Xi c o l r = b → XG σ (.bool b) σ fun v σ => R (.ret v) σ := fun n hb => by
  rw [hb] at hR
  exact Q2 hR
 clear hR
 simp only [QU,OK,zz,Nat.reduceEqDiff]
 refine Qu (fun hk => ?_) (fun hk => ?_)
 ·simp only [beq_iff_eq] at hk
  refine orG (l == 111) (fun _ J hJ => hJ _ rfl) ?_
  refine XW (o.a == 0) (fun _ J hJ => hJ _ rfl) ?_
  refine XW (o.b == 0) (fun _ J hJ => hJ _ rfl) ?_
  refine fin _ ?_
  simp only [Xi,hk,if_true]
 simp only [beq_eq_false_iff_ne,ne_eq] at hk
 refine Qu (fun hk1 => ?_) (fun hk1 => ?_)
 ·simp only [beq_iff_eq] at hk1
  refine (c228 hout hlen a b h0 h1 ho _).Q0 ?_
  simp only [S8,zz,Nat.reduceEqDiff]
  refine orG (l == 111) (fun _ J hJ => hJ _ rfl) ?_
  refine XW (XL c r o.b).2 (fun _ J hJ => hJ _ rfl) ?_
  refine XW (inS o.a (len (mAt c (rAt c (XL c r o.b).1).frame))) (fun hx J hJ => ?_) ?_
  ·simp only [Bool.and_eq_true] at hx
   obtain ⟨f0,f1⟩ := NQ hout h0 h1 hx.2
   have hfr := hf.frame f0 (by omega)
   have hix : Q5 9 (QB Qo c.routs) (.int .i64 (XL c r o.b).1) = some (.eptr (Qo (rAt c (XL c r o.b).1)) 0) := Zd X3 ZE f0 (by omega)
   have hix2 : Q5 1 (QB Xj c.maps) (.int .i64 (rAt c (XL c r o.b).1).frame) = some (.eptr (Xj (mAt c (rAt c (XL c r o.b).1).frame)) 0) := Zd Ze (.nil,[]) hfr.1 hfr.2
   simp only [hix,hix2,Zx,Qy,V2,Ql,zz,Nat.reduceEqDiff,Nat.reduceAdd]
   refine (c42 _ _ _).Q0 ?_
   exact hJ _ rfl
  refine fin _ ?_
  simp only [Xi,hk,hk1,if_true,if_false]
  rfl
 simp only [beq_eq_false_iff_ne,ne_eq] at hk1
 refine Qu (fun hk2 => ?_) (fun hk2 => ?_)
 ·simp only [beq_iff_eq] at hk2
  refine (c228 hout hlen a b h0 h1 ho _).Q0 ?_
  simp only [S8,zz,Nat.reduceEqDiff]
  refine XW (XL c r o.b).2 (fun _ J hJ => hJ _ rfl) ?_
  refine XW (inS o.a (len (rAt c (XL c r o.b).1).ranges)) (fun hx J hJ => ?_) ?_
  ·simp only [Bool.and_eq_true] at hx
   obtain ⟨f0,f1⟩ := NQ hout h0 h1 hx.2
   have hix : Q5 9 (QB Qo c.routs) (.int .i64 (XL c r o.b).1) = some (.eptr (Qo (rAt c (XL c r o.b).1)) 0) := Zd X3 ZE f0 (by omega)
   simp only [hix,Zx,Qy,Ql,zz,Nat.reduceEqDiff,Nat.reduceAdd]
   refine (c42 _ _ _).Q0 ?_
   exact hJ _ rfl
  refine fin _ ?_
  simp only [Xi,hk,hk1,hk2,if_true,if_false]
  rfl
 simp only [beq_eq_false_iff_ne,ne_eq] at hk2
 refine fin _ ?_
 simp only [Xi,hk,hk1,hk2,if_false]
end Go.Proofs.YtgghfcchanilpaaGreatDoor
namespace Go.Proofs.YtgghfcchanilpaaGreatDoor
open Go Go.Abs
def inR (at_ : Int) (r : Vv) : Bool := decide (at_ ≥ r.fr) && decide (at_ < r.to)
theorem c137 (r : Vv) (at_ : Int) (σ : St) : Ret W 137 [Qo r,.ptr σ.length 0 0 0] (σ ++ [.arr 0 1 [.int .i64 at_]]) (.bool (inR at_ r)) := by
 refine QE fun R hR => ?_
 rw [Fv]
 delta CQ bF pF gF
 have hl : Q4 false 1 (.ptr σ.length 0 0 0) (σ ++ [.arr 0 1 [.int .i64 at_]]) = some (.int .i64 at_) := by
  simp only [Q4,Sv]
  rfl
 have hx : opC.vBoxAny (Qo r) = some (9,Qo r) := rfl
 simp only [hx,hl,Qy,zz,Nat.reduceEqDiff]
 unfold inR at hR
 refine XW (decide (at_ < r.to)) (fun _ J hJ => ?_) ?_
 ·exact hJ _ rfl
 exact Q2 hR
theorem c72 {c : Qp} (hc : VX c) (a b at_ : Int) (σ : St) : Ret W 72 [X2 c a b,.int .i64 at_] σ (.int .i64 (idxOf (inR at_) c.routs.2 0)) := by
 refine QE fun R hR => ?_
 rw [DG]
 delta wR pF
 have hrl := hc.routs
 have hx : opC.vBoxAny (.int .i64 at_) = some (1,.int .i64 at_) := rfl
 have h01 : (0 : Nat) < 1 := by omega
 simp only [QU,hx,Vo,h01,if_true,zz,Nat.reduceEqDiff]
 refine (wv X3 (inR at_) (by kernel_rfl) (by omega) (fun r _ => c137 r at_ σ)).Q0 ?_
 exact Yi (List.prefix_append _ _) (Se (.int _ _)) hR
def Tc (c : Qp) (i : Xz) (l : Int) : Bool :=
 if l = 110 then true else if l = 104 then (i.n == 0) || (i.n == 1) else if l = 98 then decide (i.n ≥ 0) && decide (i.n ≤ 7)
 else if l = 77 ∧ ¬ i.s.k = 0 then decide (i.n ≥ 0) && decide (i.n < len c.maps) else i.n == 0
theorem XQ (i : Xz) : opC.vBoxAny (QD i) = some (12,QD i) ∧ Q6 false 1 (QD i) 0 = some (.int .i64 i.op) ∧ Q6 false 1 (QD i) 1 = some (.int .i64 i.s.k) ∧ Q6 false 1 (QD i) 3 = some (.int .i64 i.s.b) ∧ Q6 false 1 (QD i) 10 = some (.int .i64 i.n) ∧ Q6 false 1 (QD i) 11 = some (.int .i64 i.k) := ⟨rfl,rfl,rfl,rfl,rfl,rfl⟩
theorem c119 (c : Qp) (a b : Int) (i : Xz) (l r : Int) (σ : St) : Ret W 119 [X2 c a b,QD i,.int .u8 l,.int .i64 r] σ (.bool (Tc c i l)) := by
 refine QE fun R hR => ?_
 rw [EM]
 delta CC bF pF gF kF nI
 have fin : ∀ b : Bool,Tc c i l = b → XG σ (.bool b) σ fun v σ => R (.ret v) σ := fun n hb => by
  rw [hb] at hR
  exact Q2 hR
 clear hR
 simp only [QU,XQ,Ql,zz,Nat.reduceEqDiff]
 refine Qr (fun x τ => x 5 = QD i ∧ τ = σ ∧ Tc c i l = (i.n == 0)) (fun x τ hx => ?_) ?_
 ·obtain ⟨h5,rfl,hw⟩ := hx
  simp only [h5,XQ,zz,Nat.reduceEqDiff]
  exact fin _ hw
 refine Qu (fun h1 => ?_) (fun h1 => ?_)
 ·simp only [beq_iff_eq] at h1
  refine fin _ ?_
  simp only [Tc,h1,if_true]
 simp only [beq_eq_false_iff_ne,ne_eq] at h1
 refine Qu (fun h2 => ?_) (fun h2 => ?_)
 ·simp only [beq_iff_eq] at h2
  refine orG (i.n == 1) (fun _ J hJ => hJ _ rfl) ?_
  refine fin _ ?_
  simp only [Tc,h1,h2,if_true,if_false]
  rfl
 simp only [beq_eq_false_iff_ne,ne_eq] at h2
 refine Qu (fun h3 => ?_) (fun h3 => ?_)
 ·simp only [beq_iff_eq] at h3
  refine XW (decide (i.n ≤ 7)) (fun _ J hJ => hJ _ rfl) ?_
  refine fin _ ?_
  simp only [Tc,h1,h2,h3,if_true,if_false]
  rfl
 simp only [beq_eq_false_iff_ne,ne_eq] at h3
 refine Qu (fun h4 => ?_) (fun h4 => ?_)
 ·simp only [beq_iff_eq] at h4
  refine Qu (fun h5 => ?_) (fun h5 => ?_)
  ·refine XW (decide (i.n < len c.maps)) (fun _ J hJ => hJ _ rfl) ?_
   refine fin _ ?_
   have h5' : ¬ i.s.k = 0 := by simpa using h5
   simp only [Tc,h4,h5',if_true,if_false,not_false_iff,and_self]
   rfl
  ·have h5' : i.s.k = 0 := by simpa using h5
   refine ⟨rfl,rfl,?_⟩
   simp only [Tc,h1,h2,h3,h5',if_false,not_true,and_false]
 ·simp only [beq_eq_false_iff_ne,ne_eq] at h4
  refine ⟨rfl,rfl,?_⟩
  simp only [Tc,h1,h2,h3,h4,if_false,false_and]
end Go.Proofs.YtgghfcchanilpaaGreatDoor
namespace Go.Proofs.YtgghfcchanilpaaGreatDoor
open Go Go.Abs
def Et (c : Qp) (rows idents : Int) (l : Int) : Int :=
 if l = 104 then 2 else if l = 100 then 3 else if l = 117 then 64 else if l = 111 ∨ l = 107 then 1000 else if l = 109 then len c.maps else if l = 116 then len c.texts
 else if l = 99 then len c.jumps else if l = 112 then len c.parts else if l = 120 then len c.trans else if l = 113 then rows else if l = 105 then idents else 1
def SX (c : Qp) (r k : Int) : Bool := decide ((rAt c r).fr ≤ k) && decide (k < (rAt c r).to)
def ZL (c : Qp) (rows idents : Int) (i : Xz) (l r : Int) : Bool :=
 if l = 101 then decide (i.k ≥ -1000) && decide (i.k ≤ 1000) else if l = 68 then decide (i.k ≥ 1) && decide (i.k ≤ 3)
 else if l = 102 then (decide (i.k > 0) && decide (i.k < len c.routs)) && ((rAt c i.k).outer == r)
 else if l = 103 then decide (i.k > 0) && decide (i.k < len (rAt c r).ranges)
 else if l = 106 then SX c r i.k else if l = 74 then SX c (VI c r i.s.b).1 i.k
 else inS i.k (Et c rows idents l)
theorem S6 {l x : Int} {A B : Prop} (h1 : l = x → A) (h2 : ¬ l = x → B) : Q3 (.bool (l == x)) A B :=
 Qu (fun h => h1 (by simpa using h)) (fun h => h2 (by simpa using h))
theorem Hj {c : Qp} {i : Nat} (ho : VF c i) {r n : Int} (h0 : 0 ≤ r) (h1 : r ≤ i) : 0 ≤ (VI c r n).1 ∧ (VI c r n).1 ≤ i := by
 unfold VI
 have := YI ho n.toNat r (by omega) h1
 split
 ·exact ⟨Int.le_refl _,by simp⟩
 ·split
  ·exact ⟨Int.le_refl _,by simp⟩
  ·simp only
   omega
theorem c120 {c : Qp} (hf : Fit c) {n : Nat} (hi : n < c.routs.2.length) (a b : Int) (i : Xz) (hb : i.s.b < 9223372036854775808) (l : Int) {r : Int} (h0 : 0 ≤ r) (h1 : r ≤ n) (σ : St) :
  Ret W 120 [X2 c a b,QD i,.int .u8 l,.int .i64 r] σ (.bool (ZL c a b i l r)) := by
 refine QE fun R hR => ?_
 rw [Ey]
 delta CH bF pF gF kF nI
 have hout := hf.out hi
 have hlen : (n : Int) < len c.routs := by unfold len; omega
 have fin : ∀ v : Bool,ZL c a b i l r = v → XG σ (.bool v) σ fun v σ => R (.ret v) σ := fun v hv => by
  rw [hv] at hR
  exact Q2 hR
 clear hR
 have hix : Q5 9 (QB Qo c.routs) (.int .i64 r) = some (.eptr (Qo (rAt c r)) 0) := Zd X3 ZE h0 (by omega)
 simp only [QU,XQ,Ql,hix,Zx,Qy,zz,Nat.reduceEqDiff,Nat.reduceAdd]
 refine Qr (fun x τ => x 9 = .int .i64 i.k ∧ τ = σ ∧ ∃ m,x 10 = .int .i64 m ∧ ZL c a b i l r = inS i.k m) (fun x τ hx => ?_) ?_
 ·obtain ⟨h9,rfl,m,h10,hw⟩ := hx
  simp only [h9,h10]
  refine (c42 _ _ _).Q0 ?_
  exact fin _ hw
 have fin2 : ∀ m : Int,ZL c a b i l r = inS i.k m → ∀ x : Nat → PV,x 9 = .int .i64 i.k → x 10 = .int .i64 m → x 9 = .int .i64 i.k ∧ σ = σ ∧ ∃ m,x 10 = .int .i64 m ∧ ZL c a b i l r = inS i.k m := fun m h x h9 h10 => ⟨h9,rfl,m,h10,h⟩
 repeat' first
  | contradiction
  | refine S6 (fun hl => ?_) (fun hl => ?_)
 all_goals try (refine fin2 _ ?_ _ rfl rfl; clear fin fin2 hix; first | (subst hl; rfl) | (simp only [ZL,Et, *,if_false,or_self]))
 ·refine XW (decide (i.k ≤ 1000)) (fun _ J hJ => hJ _ rfl) ?_
  refine fin _ ?_
  clear fin fin2 hix
  subst hl
  rfl
 ·refine XW (decide (i.k ≤ 3)) (fun _ J hJ => hJ _ rfl) ?_
  refine fin _ ?_
  clear fin fin2 hix
  subst hl
  rfl
 ·refine XW (decide (i.k < len c.routs)) (fun _ J hJ => hJ _ rfl) ?_
  refine XW ((rAt c i.k).outer == r) (fun hx J hJ => ?_) ?_
  ·simp only [Bool.and_eq_true,decide_eq_true_eq] at hx
   have hix2 : Q5 9 (QB Qo c.routs) (.int .i64 i.k) = some (.eptr (Qo (rAt c i.k)) 0) := Zd X3 ZE (by omega) hx.2
   simp only [hix2,Zx,Qy,zz,Nat.reduceEqDiff,Nat.reduceAdd]
   exact hJ _ rfl
  refine fin _ ?_
  clear fin fin2 hix
  subst hl
  rfl
 ·refine XW (decide (i.k < len (rAt c r).ranges)) (fun _ J hJ => ?_) ?_
  ·try simp only [hix,Zx,Qy,Ql,zz,Nat.reduceEqDiff,Nat.reduceAdd]
   exact hJ _ rfl
  refine fin _ ?_
  clear fin fin2 hix
  subst hl
  rfl
 ·refine XW (decide (i.k < (rAt c r).to)) (fun _ J hJ => ?_) ?_
  ·try simp only [hix,Zx,Qy,zz,Nat.reduceEqDiff,Nat.reduceAdd]
   exact hJ _ rfl
  refine fin _ ?_
  clear fin fin2 hix
  subst hl
  rfl
 ·refine (c227 hout hlen a b h0 h1 hb _).Q0 ?_
  obtain ⟨g0,g1⟩ := Hj (n := i.s.b) hout h0 h1
  have hix3 : Q5 9 (QB Qo c.routs) (.int .i64 (VI c r i.s.b).1) = some (.eptr (Qo (rAt c (VI c r i.s.b).1)) 0) := Zd X3 ZE g0 (by omega)
  simp only [S8,hix3,Zx,Qy,zz,Nat.reduceEqDiff,Nat.reduceAdd]
  refine XW (decide (i.k < (rAt c (VI c r i.s.b).1).to)) (fun _ J hJ => ?_) ?_
  ·exact hJ _ rfl
  refine fin _ ?_
  clear fin fin2 hix
  subst hl
  rfl
end Go.Proofs.YtgghfcchanilpaaGreatDoor
