import Derived.Test.YtgghfcchanilpaaGreatDoorSpM
set_option linter.unusedVariables false
set_option linter.unusedSimpArgs false
namespace Go.Proofs.YtgghfcchanilpaaGreatDoor
open Go Go.Abs
theorem Ve {b : Bool} {k1 k2 k3 : Nat} {op1 : ((Nat → EV) → St → Prop) → Prop} {op2 : (Nat → EV) → St → ((Nat → EV) → St → Prop) → Prop} {σ : St} {C : PV → St → Prop} (A B : Bool)
  (h1 : b = false → ∀ J : (Nat → EV) → St → Prop,(∀ y,(y k1).pv = .bool A → J y σ) → op1 J)
  (h2 : b = false → A = true → ∀ (y : Nat → EV) (J : (Nat → EV) → St → Prop),(∀ y,(y k2).pv = .bool B → J y σ) → op2 y σ J)
  (h : C (.bool (b || (A && B))) σ) :
  XB False (.bool b) false op1 σ (fun y σ1 => XB False (y k1).pv true (op2 y σ1) σ1 (fun y2 σ2 =>
   XB False (.bool b) false (fun J => Qg False (Qc (y k1).pv (y2 k2).pv (.bool false)) fun v => J (Q9 [(k3,.v v)]) σ2) σ2 (fun y3 σ3 =>
    Qg False (Qc (.bool b) (.bool true) (y3 k3).pv) fun v => C v σ3))) := by
 cases b with
 | true => exact h
 | false =>
  show op1 _
  refine h1 rfl _ fun y hy => ?_
  show XB False (y k1).pv true (op2 y σ) σ _
  rw [hy]
  cases A with
  | false =>
   simp only [zz,Nat.reduceEqDiff]
   exact h
  | true =>
   show op2 y σ _
   refine h2 rfl rfl y _ fun y2 hy2 => ?_
   rw [hy2]
   simp only [zz,Nat.reduceEqDiff]
   exact h
theorem S4 (r : Vv) : Qv 9 (.agg [(.int .i64 0),(.int .i64 0),(.int .i64 0),(.int .i64 0),(.int .i64 0),(.int .i64 0),(.int .i64 0),(.int .i64 0),(.list .nil [])]) 0 (Qo r) = some (Qo r) := rfl
theorem Ll (r : Yq) : Qv 3 (.agg [(.int .i64 0),(.int .i64 0),(.int .i64 0)]) 0 (X7 r) = some (X7 r) := rfl
theorem OZ (r : Yq) : Q6 false 1 (X7 r) 0 = some (.int .i64 r.outer) ∧ Q6 false 1 (X7 r) 1 = some (.int .i64 r.fr) ∧ Q6 false 1 (X7 r) 2 = some (.int .i64 r.to) ∧ Q6 true 3 (X7 r) 0 = some (X7 r) := ⟨rfl,rfl,rfl,rfl⟩
theorem Ei (A B : Sl Xb) : QI 1 (List.replicate 2 (.list .nil [])) [(0,QB Qm A),(1,QB Qm B)] = some ([A,B].map (QB Qm)) := rfl
theorem YT {n : St} {F : ((Nat → PV) → St → Prop) → (Nat → PV) → St → Prop} (N : Nat) (e : Nat → Int) (mk : Nat → Nat → PV) (σ : St) {x0 : Nat → PV} (h0 : x0 = mk 0)
  (hend : (∀ k,k < N → e k = 0) → ∀ Φ : (Nat → PV) → St → Prop,F Φ (mk N) σ)
  (step : ∀ (Φ : (Nat → PV) → St → Prop) (j : Nat),j < N → (∀ k,k < j → e k = 0) → (e j ≠ 0 → ZK e N = e j) → (e j = 0 → Φ (mk (j + 1)) σ) → F Φ (mk j) σ) : Lfp n F x0 σ := by
 refine QT N (fun j x σ' => x = mk j ∧ σ' = σ ∧ ∀ k,k < j → e k = 0) ?_ ⟨h0,rfl,fun k hk => by omega⟩
 rintro Φ j x σ' hj ⟨rfl,rfl,hp⟩ next
 by_cases hlt : j < N
 ·refine step Φ j hlt hp (fun h => OC hp h hlt) fun hb => ?_
  refine next _ _ hlt ⟨rfl,rfl,fun k hk => ?_⟩
  rcases Nat.lt_succ_iff_lt_or_eq.1 hk with hk | rfl
  ·exact hp k hk
  ·exact hb
 ·obtain rfl : j = N := by omega
  exact hend hp Φ
theorem c116 {c : Qp} (hc : VX c) (hsig : YE c = false) (a b : Int) {i : Nat} (hi : i < c.routs.2.length) (hp : ∀ k,k < i → Z8 c k = false) (hlv : (rAt c i).level < 9223372036854775808) (σ : St) : Ret W 116 [X2 c a b,.int .i64 i] σ (.int .i64 (Xy c i)) := by
 refine QE fun R hR => ?_
 rw [Ex]
 delta Bo bF pF gF kF nI nL
 have fin : ∀ n : Int,Xy c i = n → XG σ (.int .i64 n) σ fun v σ => R (.ret v) σ := fun n hb => by
  rw [hb] at hR
  exact Q2 hR
 clear hR
 have hrl := hc.routs
 have hix : Q5 9 (QB Qo c.routs) (.int .i64 i) = some (.eptr (Qo (rAt c i)) 0) := Zd X3 ZE (by omega) (by unfold len; omega)
 simp only [QU,hix,X3.part,S4,Ql,zz,Nat.reduceEqDiff]
 refine Qr (fun x τ => x 1 = .int .i64 i ∧ x 6 = .int .i64 (YQ c i) ∧ x 2 = X2 c a b ∧ x 5 = Qo (rAt c i) ∧ τ = σ) (fun x τ hx => ?_) ?_
 case refine_2 =>
  refine Qu (fun hb => ?_) (fun hb => ?_)
  ·simp only [decide_eq_true_eq] at hb
   rw [Yh _ (by omega) (by omega)]
   have hix1 : Q5 9 (QB Qo c.routs) (.int .i64 ((i : Int) - 1)) = some (.eptr (Qo (rAt c (i - 1 : Nat))) 0) := by
    rw [show (i : Int) - 1 = ((i - 1 : Nat) : Int) by omega]
    exact Zd X3 ZE (by omega) (by unfold len; omega)
   simp only [hix1,Zx,Qy,zz,Nat.reduceEqDiff,Nat.reduceAdd]
   refine ⟨trivial,?_,trivial,trivial,trivial⟩
   simp only [YQ,if_pos hb]
  ·simp only [decide_eq_false_iff_not] at hb
   refine ⟨rfl,?_,rfl,rfl,rfl⟩
   simp only [YQ,if_neg hb]
   rfl
 obtain ⟨h1,h6,h2,h5,rfl⟩ := hx
 simp only [h1,h6,h2,h5,QU,Qy,Ql,zz,Nat.reduceEqDiff]
 clear h1 h6 h2 h5 x
 refine (c42 _ _ _).Q0 ?_
 simp only [zz,Nat.reduceEqDiff]
 refine orG (!inS (rAt c i).frame (len c.maps)) (fun _ J hJ => ?_) ?_
 ·refine (c42 _ _ _).Q0 ?_
  simp only [zz,Nat.reduceEqDiff]
  exact hJ _ rfl
 refine Ve ((i : Int) == 0) (!((rAt c i).outer == -1)) (fun _ J hJ => ?_) (fun _ _ y J hJ => ?_) ?_
 ·exact hJ _ rfl
 ·exact hJ _ rfl
 refine Ve (decide ((i : Int) > 0)) (!inS (rAt c i).outer i) (fun _ J hJ => ?_) (fun _ _ y J hJ => ?_) ?_
 ·exact hJ _ rfl
 ·refine (c42 _ _ _).Q0 ?_
  simp only [zz,Nat.reduceEqDiff]
  exact hJ _ rfl
 refine Qu (fun hb => ?_) (fun hh => ?_)
 ·refine fin _ ?_
  have : Z8 c i = true := hb
  simp only [Xy,this,if_true]
 have hh' : Z8 c i = false := hh
 have ho : VF c i := Mh fun k hk => by
  rcases Nat.lt_or_eq_of_le hk with hk | rfl
  ·exact hp k hk
  ·exact hh'
 refine Qu (fun he => ?_) (fun he => ?_)
 ·refine fin _ ?_
  simp only [beq_iff_eq] at he
  simp only [Xy,hh',Bool.false_eq_true,if_false,he,if_true]
 simp only [beq_eq_false_iff_ne,ne_eq] at he
 refine orG (decide ((rAt c i).to ≤ (rAt c i).fr)) (fun _ J hJ => ?_) ?_
 ·exact hJ _ rfl
 refine Ve ((i : Int) == len c.routs - 1) (!((rAt c i).to == len c.insts)) (fun _ J hJ => ?_) (fun _ _ y J hJ => ?_) ?_
 ·rw [Yh _ (by unfold len; omega) (by unfold len; omega)]
  simp only [zz,Nat.reduceEqDiff]
  exact hJ _ rfl
 ·exact hJ _ rfl
 refine Qu (fun hb => ?_) (fun hb => ?_)
 ·refine fin _ ?_
  have : Vx c i = true := hb
  simp only [Xy,hh',Bool.false_eq_true,if_false,he,if_true,this]
 have hob : Vx c i = false := hb
 clear hb hh
 have hhc := hh'
 simp only [Z8,Bool.or_eq_false_iff,Bool.not_eq_false',inS,Bool.and_eq_true,decide_eq_true_eq] at hhc
 obtain ⟨⟨⟨⟨hs0,hs1⟩,hf0,hf1⟩,-⟩,hout⟩ := hhc
 have hsg : inS (sAt c (rAt c i).sig).1 (len c.maps) = true ∧ inS (sAt c (rAt c i).sig).2 (len c.maps) = true := by
  have hm : sAt c (rAt c i).sig ∈ c.sigs.2 := by
   have hn : (rAt c i).sig.toNat < c.sigs.2.length := by unfold len at hs1; omega
   simp [sAt,atI,List.getD_eq_getElem?_getD,hn]
  have := List.any_eq_false.1 hsig _ hm
  simpa using this
 obtain ⟨hsg1,hsg2⟩ := hsg
 simp only [inS,Bool.and_eq_true,decide_eq_true_eq] at hsg1 hsg2
 have ix1 : Q5 2 (QB Qw c.sigs) (.int .i64 (rAt c i).sig) = some (.eptr (Qw (sAt c (rAt c i).sig)) 0) := Zd ZB (0,0) hs0 hs1
 have ix2 : Q5 1 (QB Xj c.maps) (.int .i64 (sAt c (rAt c i).sig).2) = some (.eptr (Xj (mAt c (sAt c (rAt c i).sig).2)) 0) := Zd Ze (.nil,[]) hsg2.1 hsg2.2
 have ix3 : Q5 1 (QB Xj c.maps) (.int .i64 (sAt c (rAt c i).sig).1) = some (.eptr (Xj (mAt c (sAt c (rAt c i).sig).1)) 0) := Zd Ze (.nil,[]) hsg1.1 hsg1.2
 have ix4 : Q5 1 (QB Xj c.maps) (.int .i64 (rAt c i).frame) = some (.eptr (Xj (mAt c (rAt c i).frame)) 0) := Zd Ze (.nil,[]) hf0 hf1
 have hml : ∀ k : Int,(mAt c k).2.length ≤ 1048576 := fun k => by
  unfold mAt atI
  rw [List.getD_eq_getElem?_getD]
  cases hk : c.maps.2[k.toNat]? with
  | none => simp
  | some m => exact hc.slots m (List.mem_of_getElem? hk)
 simp only [ix1,ix2,ix3,ix4,ZB.part,T2,Zx,V2,Ei,zz,Nat.reduceEqDiff,Nat.reduceAdd]
 refine (c225 (by simp) (by
  intro m hm
  simp at hm
  rcases hm with rfl | rfl <;> exact hml _) _).Q0 ?_
 have hcat : Zj [mAt c (sAt c (rAt c i).sig).2,mAt c (sAt c (rAt c i).sig).1] = V1 c i ++ UK c i := by
  simp [Zj,V1,UK]
 have hres : (V1 c i).length ≤ 1048576 := hml _
 have hpar : (UK c i).length ≤ 1048576 := hml _
 have hfrm : (Y4 c i).length ≤ 1048576 := hml _
 rw [hcat]
 have hF : (V1 c i ++ UK c i).length ≤ 2097152 := by simp; omega
 have hsh : Ya c i = (((i : Int) == 0 && decide (((V1 c i ++ UK c i).length : Int) > 0)) || decide ((Y4 c i).length < (V1 c i ++ UK c i).length) || !decide ((Y4 c i).take (V1 c i ++ UK c i).length = V1 c i ++ UK c i)) := rfl
 generalize V1 c i ++ UK c i = F at hF hsh
 obtain ⟨kF,hkF⟩ := Ug (F.map Qm)
 have hfr : QB Qm (mAt c (rAt c i).frame) = .list (mAt c (rAt c i).frame).1 ((Y4 c i).map Qm) := rfl
 simp only [hkF,hfr,List.length_map,zz,Nat.reduceEqDiff]
 refine XW (decide ((F.length : Int) > 0)) (fun _ J hJ => ?_) ?_
 ·exact hJ _ rfl
 refine orG (decide ((Y4 c i).length < F.length)) (fun _ J hJ => ?_) ?_
 ·exact hJ _ rfl
 refine orG (!decide ((Y4 c i).take F.length = F)) (fun hn J hJ => ?_) ?_
 ·simp only [Bool.or_eq_false_iff,decide_eq_false_iff_not] at hn
  have hle : F.length ≤ (Y4 c i).length := by omega
  have hsz : QZ 5 ((Y4 c i).map Qm) = true := V9 fun x hx => by
   obtain ⟨s,_,rfl⟩ := List.mem_map.1 hx
   exact ⟨_,rfl,rfl⟩
  have hsub : XN 5 (.list (mAt c (rAt c i).frame).1 ((Y4 c i).map Qm)) none (some (.int .i64 F.length)) = some (.list ((mAt c (rAt c i).frame).1.sub (F.length == (Y4 c i).length)) (((Y4 c i).take F.length).map Qm)) := by
   simp [XN,bound,hsz,hle,List.map_take]
  simp only [hsub,zz,Nat.reduceEqDiff]
  refine (c226 (by simp; omega) _).Q0 ?_
  simp only [zz,Nat.reduceEqDiff]
  exact hJ _ rfl
 refine Qu (fun hb => ?_) (fun hb => ?_)
 ·refine fin _ ?_
  have : Ya c i = true := by rw [hsh]; exact hb
  simp only [Xy,hh',Bool.false_eq_true,if_false,he,if_true,hob,this]
 have hsb : Ya c i = false := by rw [hsh]; exact hb
 clear hb hsh
 have hrg : (rAt c i).ranges.2.length ≤ 1048576 := by
  have hm : rAt c i ∈ c.routs.2 := by
   simp [rAt,atI,List.getD_eq_getElem?_getD,hi]
  exact hc.ranges _ hm
 try simp only [Qy,Ql,zz,Nat.reduceEqDiff]
 refine Qr (fun x τ' => x 1 = .int .i64 i ∧ x 2 = X2 c a b ∧ x 5 = Qo (rAt c i) ∧ τ' = τ ∧ SA c i = 0) (fun x τ' hx => ?_) ?_
 case refine_2 =>
  have hresv : QB Qm (mAt c (sAt c (rAt c i).sig).2) = .list (mAt c (sAt c (rAt c i).sig).2).1 ((V1 c i).map Qm) := rfl
  simp only [hresv]
  generalize (mAt c (sAt c (rAt c i).sig).2).1 = kR
  generalize (mAt c (rAt c i).frame).1 = kM
  refine YT (rAt c i).ranges.2.length (fun k => Ub (V1 c i).length (Y4 c i).length k ((rAt c i).ranges.2.getD k TI))
   (fun j => Qz [(1,.int .i64 i),(8,.list kR ((V1 c i).map Qm)),(10,.list kM ((Y4 c i).map Qm)),(165,QB X7 (rAt c i).ranges),(166,.int .i64 (len (rAt c i).ranges)),(167,.int .i64 j),(2,X2 c a b),(5,Qo (rAt c i))]) _ rfl (fun hall Φ => ?_) (fun Φ j hj hpre hhit next => ?_)
  ·simp only [QG,Nat.lt_irrefl,decide_false,zz,Nat.reduceEqDiff]
   exact ⟨trivial,trivial,trivial,trivial,XZ hall⟩
  have hg : (rAt c i).ranges.2[j]? = some ((rAt c i).ranges.2.getD j TI) := by simp [List.getD_eq_getElem?_getD,hj]
  have hre : ∀ n : Int,n ≠ 0 → Ub (V1 c i).length (Y4 c i).length j ((rAt c i).ranges.2.getD j TI) = n → Xy c i = n := fun n hn hr => by
   have h1 : SA c i = n := by
    rw [← hr]
    exact hhit (by rw [hr]; exact hn)
   simp only [Xy,hh',Bool.false_eq_true,if_false,he,hob,hsb,h1]
   rw [if_pos hn]
  generalize (rAt c i).ranges.2.getD j TI = g at hg hre next
  simp only [Xk hj,hj,decide_true,QV PG hg,OZ,Ll,List.length_map,zz,Nat.reduceEqDiff]
  refine XW (!(g.outer == -1)) (fun _ J hJ => ?_) ?_
  ·exact hJ _ rfl
  refine Ve (decide ((j : Int) > 0)) (!inS g.outer j) (fun _ J hJ => ?_) (fun _ _ y J hJ => ?_) ?_
  ·exact hJ _ rfl
  ·refine (c42 _ _ _).Q0 ?_
   simp only [zz,Nat.reduceEqDiff]
   exact hJ _ rfl
  refine Qu (fun hb => ?_) (fun hb1 => ?_)
  ·refine fin _ (hre 10 (by omega) ?_)
   simp only [Ub,hb,if_true]
  refine orG (decide (g.fr > g.to)) (fun _ J hJ => ?_) ?_
  ·exact hJ _ rfl
  refine orG (decide (g.to > (Y4 c i).length)) (fun _ J hJ => ?_) ?_
  ·exact hJ _ rfl
  refine Qu (fun hb => ?_) (fun hb => ?_)
  ·refine fin _ (hre 11 (by omega) ?_)
   simp only [Ub,hb1,hb,Bool.false_eq_true,if_false,if_true]
  ·rw [Qi _ (by omega) (by omega)]
   simp only [zz,Nat.reduceEqDiff]
   refine next ?_
   simp only [Ub,hb1,hb,Bool.false_eq_true,if_false]
 obtain ⟨h1,h2,h5,rfl,hrr⟩ := hx
 simp only [h1,h2,h5,QU,Qy,Ql,zz,Nat.reduceEqDiff]
 refine XW (!((rAt c i).within == -1)) (fun _ J hJ => ?_) ?_
 ·exact hJ _ rfl
 refine Ve (decide ((i : Int) > 0)) (!inS (rAt c i).within (len (rAt c (rAt c i).outer).ranges)) (fun _ J hJ => ?_) (fun _ hA y J hJ => ?_) ?_
 ·exact hJ _ rfl
 ·simp only [hA,Bool.true_and,Bool.not_eq_false',Bool.and_eq_true,decide_eq_true_eq] at hout
  have hix5 : Q5 9 (QB Qo c.routs) (.int .i64 (rAt c i).outer) = some (.eptr (Qo (rAt c (rAt c i).outer)) 0) := Zd X3 ZE hout.1 (by unfold len; omega)
  simp only [hix5,Zx,Qy,Ql,zz,Nat.reduceEqDiff,Nat.reduceAdd]
  refine (c42 _ _ _).Q0 ?_
  simp only [zz,Nat.reduceEqDiff]
  exact hJ _ rfl
 refine orG (decide ((rAt c i).level < 0)) (fun _ J hJ => ?_) ?_
 ·exact hJ _ rfl
 refine Ve ((rAt c i).level == 0) (!((rAt c i).needs == 0)) (fun _ J hJ => ?_) (fun _ hA y J hJ => ?_) ?_
 ·exact hJ _ rfl
 ·exact hJ _ rfl
 refine Qu (fun hb => ?_) (fun hb => ?_)
 ·refine fin _ ?_
  have : PF c i = true := hb
  simp only [Xy,hh',Bool.false_eq_true,if_false,he,hob,hsb,hrr,this,ne_eq,not_true,if_true]
 have hbb : PF c i = false := hb
 clear hb
 have hre : ∀ n : Int,(if (rAt c i).level > 0 then (if PZ c i then (11 : Int) else 0) else 0) = n → Xy c i = n := fun n h => by
  rw [← h]
  simp only [Xy,hh',Bool.false_eq_true,if_false,he,hob,hsb,hrr,hbb,ne_eq,not_true]
 refine Qr (fun x τ => τ = τ' ∧ Xy c i = 0) (fun x τ hx => ?_) ?_
 ·obtain ⟨rfl,hz⟩ := hx
  exact fin _ hz
 refine Qu (fun hl => ?_) (fun hl => ?_)
 ·simp only [decide_eq_true_eq] at hl
  rw [if_pos hl] at hre
  refine (c227 ho (by unfold len; omega) a b (by omega) (by omega) hlv _).Q0 ?_
  have hlt0 : ¬ (rAt c i).level < 0 := by omega
  unfold VI
  rw [if_neg hlt0]
  unfold PZ at hre
  generalize hfu : Y9 c (rAt c i).level.toNat i = f at hre
  have hfb := YI ho (rAt c i).level.toNat i (by omega) (by omega)
  rw [hfu] at hfb
  by_cases hf : f < 0
  ·simp only [hf,if_true,S8,zz,Nat.reduceEqDiff]
   refine fin _ (hre 11 ?_)
   simp only [hf,decide_true,Bool.true_or,if_true]
  ·have hix6 : Q5 9 (QB Qo c.routs) (.int .i64 f) = some (.eptr (Qo (rAt c f)) 0) := Zd X3 ZE (by omega) (by unfold len; omega)
   simp only [hf,if_false,S8,hix6,Zx,Qy,Ql,zz,Nat.reduceEqDiff,Nat.reduceAdd]
   refine (c42 _ _ _).Q0 ?_
   simp only [zz,Nat.reduceEqDiff]
   refine Qu (fun hb => ?_) (fun hb => ?_)
   ·refine fin _ (hre 11 ?_)
    simp only [hb,Bool.or_true,if_true]
   ·refine ⟨trivial,hre 0 ?_⟩
    simp only [hf,hb,decide_false,Bool.or_false,Bool.false_eq_true,if_false]
 ·simp only [decide_eq_false_iff_not] at hl
  refine ⟨rfl,hre 0 ?_⟩
  rw [if_neg hl]
theorem U4 {c : Qp} {k : Nat} (h : Xy c k = 0) : Z8 c k = false := by
 cases hb : Z8 c k with
 | false => rfl
 | true =>
  simp only [Xy,hb,if_true] at h
  omega
theorem c61 {c : Qp} (hc : VX c) (hsig : YE c = false) (a b : Int) (hlv : ∀ k,(rAt c k).level < 9223372036854775808) (σ : St) : Ret W 61 [X2 c a b] σ (.int .i64 (YN c)) := by
 refine QE fun R hR => ?_
 rw [Dn]
 delta qs bF pF kF nI
 have fin : ∀ n : Int,YN c = n → XG σ (.int .i64 n) σ fun v σ => R (.ret v) σ := fun n hb => by
  rw [hb] at hR
  exact Q2 hR
 clear hR
 have hrl := hc.routs
 simp only [QU,Ql,zz,Nat.reduceEqDiff]
 refine Qu (fun he => ?_) (fun he => ?_)
 ·simp only [beq_iff_eq] at he
  refine fin _ ?_
  simp only [YN,he,if_true]
 simp only [beq_eq_false_iff_ne,ne_eq] at he
 refine YT c.routs.2.length (Xy c) (fun j => Qz [(13,.int .i64 (len c.routs)),(14,.int .i64 j),(1,X2 c a b)]) _ rfl (fun hall Φ => ?_) (fun Φ j hj hpre hhit next => ?_)
 ·simp only [QG,Nat.lt_irrefl,decide_false,zz,Nat.reduceEqDiff]
  refine fin _ ?_
  simp only [YN,he,if_false,XZ hall]
 simp only [Xk hj,hj,decide_true,QU,zz,Nat.reduceEqDiff]
 refine (c116 hc hsig a b hj (fun k hk => U4 (hpre k hk)) (hlv _) _).Q0 ?_
 simp only [zz,Nat.reduceEqDiff]
 refine Qu (fun hb => ?_) (fun hb => ?_)
 ·have hne : Xy c j ≠ 0 := by simpa using hb
  refine fin _ ?_
  simp only [YN,he,if_false,hhit hne]
 ·have h0 : Xy c j = 0 := by simpa using hb
  rw [Qi _ (by omega) (by omega)]
  simp only [zz,Nat.reduceEqDiff]
  exact next h0
end Go.Proofs.YtgghfcchanilpaaGreatDoor
