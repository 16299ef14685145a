import Derived.Test.YtgghfcchanilpaaGreatDoorSpN
set_option linter.unusedVariables false
set_option linter.unusedSimpArgs false
namespace Go.Proofs.YtgghfcchanilpaaGreatDoor
open Go Go.Abs
def VL (c : Qp) (r n : Int) : Int := if n < 0 ∨ n > len c.routs then -1 else Y9 c n.toNat r
theorem BI {c : Qp} (hc : VX c) {i : Nat} (ho : VF c i) (hi : (i : Int) < len c.routs) {r n : Int} (h0 : -1 ≤ r) (h1 : r ≤ i) (σ : St) : Ret W 125 [Qt c,.int .i64 r,.int .i64 n] σ (.int .i64 (VL c r n)) := by
 refine QE fun R hR => ?_
 rw [EL]
 delta CJ bF pF gF kF nI
 have hrl := hc.routs
 simp only [Qf,Ql,zz,Nat.reduceEqDiff]
 refine orG (decide (n > len c.routs)) (fun _ J hJ => ?_) ?_
 ·exact hJ _ rfl
 unfold VL at hR
 refine Qu (fun hb => ?_) (fun hb => ?_)
 ·simp only [Bool.or_eq_true,decide_eq_true_eq] at hb
  rw [if_pos hb] at hR
  exact Q2 hR
 simp only [Bool.or_eq_false_iff,decide_eq_false_iff_not] at hb
 rw [if_neg (by omega)] at hR
 obtain ⟨m,rfl⟩ := Int.eq_ofNat_of_zero_le (Int.not_lt.1 hb.1)
 have hm : m ≤ 1048576 := by
  have := hb.2
  unfold len at this
  omega
 rw [Int.toNat_natCast] at hR
 generalize hF : Y9 c m r = F at hR
 refine Qr (fun x τ => x 1 = .int .i64 F ∧ τ = σ) (fun x τ hx => ?_) ?_
 ·obtain ⟨h1,rfl⟩ := hx
  simp only [h1]
  exact Q2 hR
 refine QT m (fun j x τ => ∃ r : Int,-1 ≤ r ∧ r ≤ i ∧ x = Qz [(1,.int .i64 r),(2,.int .i64 m),(7,.int .i64 j),(3,Qt c)] ∧ τ = σ ∧ Y9 c (m - j) r = F) ?_ ⟨r,h0,h1,rfl,rfl,hF⟩
 rintro Φ j x τ hj ⟨r,h0,h1,rfl,rfl,hF⟩ next
 simp only [Qf,zz,Nat.reduceEqDiff]
 refine XW (decide (r ≥ 0)) (fun _ J hJ => ?_) ?_
 ·exact hJ _ rfl
 refine Qu (fun hb => ?_) (fun hb => ?_)
 ·simp only [Bool.and_eq_true,decide_eq_true_eq] at hb
  obtain ⟨hb1,hb2⟩ := hb
  have hjm : j < m := by omega
  have hk := ho r.toNat (by omega)
  rw [Int.toNat_of_nonneg hb2] at hk
  have hix : Q5 9 (QB Qo c.routs) (.int .i64 r) = some (.eptr (Qo (rAt c r)) 0) := Zd X3 ZE hb2 (by omega)
  have hadd : QR none .add (.int .i64 j) (.int .i64 1) = some (.int .i64 (j + 1 : Nat)) := Qi _ (by omega) (by omega)
  have h2 : ¬ r < 0 := by omega
  rw [show m - j = (m - (j + 1)) + 1 by omega] at hF
  simp only [Y9,h2,if_false] at hF
  simp only [hix,Zx,Qy,hadd,zz,Nat.reduceEqDiff,Nat.reduceAdd]
  exact next _ _ hjm ⟨(rAt c r).outer,by omega,by omega,rfl,rfl,hF⟩
 ·refine ⟨?_,rfl⟩
  have : F = r := by
   rw [← hF]
   simp only [Bool.and_eq_false_iff,decide_eq_false_iff_not] at hb
   rcases hb with hb | hb
   ·have hjm : m - j = 0 := by omega
    rw [hjm]
    rfl
   ·exact NB c (by omega) _
  rw [this]
theorem N7 {l : List Xb} : ∀ z ∈ l.map Qm,Ul 5 z := fun x hx => by
 obtain ⟨s,_,rfl⟩ := List.mem_map.1 hx
 exact ⟨_,rfl,rfl⟩
theorem JB {l : List Xb} {k : LK} (hl : l.length ≤ 1048576) (σ : St) : ∃ y σ1,QM 5 40 (.list .full []) (.list k (l.map Qm)) σ = some (y,σ1) ∧ σ <+: σ1 ∧ ((l = [] ∧ y = .list .full [] ∧ σ1 = σ) ∨ Grow σ.length 5 σ1 y (l.map Qm)) := by
 cases l with
 | nil => exact ⟨_,_,rfl,List.prefix_refl _,.inl ⟨rfl,rfl,rfl⟩⟩
 | cons s l =>
  have hr : roomy (s :: l).length 40 = true := by simp only [roomy,decide_eq_true_eq]; omega
  refine ⟨.sref σ.length 0 5 0 (s :: l).length,σ ++ [.arr 0 5 ((s :: l).map Qm)],?_,List.prefix_append _ _,.inr (.inr ⟨σ.length,0,Nat.le_refl _,by simp,by simp,by simp⟩)⟩
  have hh : QZ 5 ((s :: l).map Qm) = true := V9 N7
  have h0 : QZ 5 [] = true := rfl
  have hemp : ((s :: l).map Qm).isEmpty = false := rfl
  have hl2 : ([] : List PV).length + ((s :: l).map Qm).length = (s :: l).length := by simp
  simp only [QM,Xn,hemp,hl2,hr,hh,h0,Bool.false_eq_true,if_false,List.nil_append]
  rw [if_pos ⟨by decide,trivial,trivial,trivial⟩]
theorem app2 (A B : Sl Xb) (hA : A.2.length ≤ 1048576) (hB : B.2.length ≤ 1048576) (σ : St) : ∃ y σ1 x τ,QM 5 40 (.list .full []) (QB Qm A) σ = some (y,σ1) ∧ QM 5 40 y (QB Qm B) σ1 = some (x,τ) ∧ σ <+: τ ∧ Ps τ 5 x ((A.2 ++ B.2).map Qm) := by
 obtain ⟨y,σ1,h1,hp,h⟩ := JB (k := A.1) hA σ
 rcases h with ⟨h0,rfl,rfl⟩ | hg
 ·obtain ⟨x,τ,h2,hp2,h'⟩ := JB (k := B.1) hB σ1
  refine ⟨_,_,x,τ,h1,h2,hp2,?_⟩
  rw [h0,List.nil_append]
  rcases h' with ⟨h0',rfl,rfl⟩ | hg'
  ·rw [h0']
   exact .list _ _
  ·exact hg'.elems
 ·obtain ⟨x,τ,h2,g2,p2,-⟩ := Grow.app (by_ := 40) hg hp (y := QB Qm B) (zs := B.2.map Qm) rfl N7 (by simp; omega)
  refine ⟨_,_,x,τ,h1,h2,p2,?_⟩
  rw [List.map_append]
  exact g2.elems
theorem c124 {c : Qp} (hc : VX c) (hsig : YE c = false) {i : Nat} (hi : i < c.routs.2.length) (hh : Z8 c i = false) (σ : St) : Ret W 124 [Qt c,.int .i64 i] σ (.bool (!Ya c i)) := by
 refine QE fun R hR => ?_
 rw [FP]
 delta Bq bF pF gF kF nI nL
 have hix : Q5 9 (QB Qo c.routs) (.int .i64 i) = some (.eptr (Qo (rAt c i)) 0) := Zd X3 ZE (by omega) (by unfold len; omega)
 have hhc := hh
 simp only [Z8,Bool.or_eq_false_iff,Bool.not_eq_false',inS,Bool.and_eq_true,decide_eq_true_eq] at hhc
 obtain ⟨⟨⟨⟨hs0,hs1⟩,hf0,hf1⟩,-⟩,-⟩ := hhc
 have hsg : inS (sAt c (rAt c i).sig).1 (len c.maps) = true ∧ inS (sAt c (rAt c i).sig).2 (len c.maps) = true := by
  have hm : sAt c (rAt c i).sig ∈ c.sigs.2 := by
   have hn : (rAt c i).sig.toNat < c.sigs.2.length := by unfold len at hs1; omega
   simp [sAt,atI,List.getD_eq_getElem?_getD,hn]
  have := List.any_eq_false.1 hsig _ hm
  simpa using this
 obtain ⟨hsg1,hsg2⟩ := hsg
 simp only [inS,Bool.and_eq_true,decide_eq_true_eq] at hsg1 hsg2
 have ix1 : Q5 2 (QB Qw c.sigs) (.int .i64 (rAt c i).sig) = some (.eptr (Qw (sAt c (rAt c i).sig)) 0) := Zd ZB (0,0) hs0 hs1
 have ix2 : Q5 1 (QB Xj c.maps) (.int .i64 (sAt c (rAt c i).sig).2) = some (.eptr (Xj (mAt c (sAt c (rAt c i).sig).2)) 0) := Zd Ze (.nil,[]) hsg2.1 hsg2.2
 have ix3 : Q5 1 (QB Xj c.maps) (.int .i64 (sAt c (rAt c i).sig).1) = some (.eptr (Xj (mAt c (sAt c (rAt c i).sig).1)) 0) := Zd Ze (.nil,[]) hsg1.1 hsg1.2
 have ix4 : Q5 1 (QB Xj c.maps) (.int .i64 (rAt c i).frame) = some (.eptr (Xj (mAt c (rAt c i).frame)) 0) := Zd Ze (.nil,[]) hf0 hf1
 have hml : ∀ k : Int,(mAt c k).2.length ≤ 1048576 := fun k => by
  unfold mAt atI
  rw [List.getD_eq_getElem?_getD]
  cases hk : c.maps.2[k.toNat]? with
  | none => simp
  | some m => exact hc.slots m (List.mem_of_getElem? hk)
 have hb0 : QI 5 (List.replicate 0 (.agg [(.int .i64 0),(.int .i64 0),(.int .i64 0),(.int .i64 0),(.bool false)])) [] = some [] := rfl
 simp only [Qf,hix,X3.part,S4,Qy,ix1,ix2,ix3,ix4,ZB.part,T2,Zx,V2,hb0,zz,Nat.reduceEqDiff,Nat.reduceAdd]
 obtain ⟨y,σ1,x,τ,a1,a2,hp,hE⟩ := app2 (mAt c (sAt c (rAt c i).sig).2) (mAt c (sAt c (rAt c i).sig).1) (hml _) (hml _) σ
 have hE' : Ps τ 5 x ((V1 c i ++ UK c i).map Qm) := hE
 have fin : ∀ b : Bool,(!Ya c i) = b → XG σ (.bool b) τ fun v σ => R (.ret v) σ := fun b hb => by
  rw [hb] at hR
  exact Yi hp (Se (.bool _)) hR
 clear hR
 have hres : (V1 c i).length ≤ 1048576 := hml _
 have hpar : (UK c i).length ≤ 1048576 := hml _
 have hfrm : (Y4 c i).length ≤ 1048576 := hml _
 have hF : (V1 c i ++ UK c i).length ≤ 2097152 := by simp; omega
 have hsh : Ya c i = (((i : Int) == 0 && decide (((V1 c i ++ UK c i).length : Int) > 0)) || decide ((Y4 c i).length < (V1 c i ++ UK c i).length) || !decide ((Y4 c i).take (V1 c i ++ UK c i).length = V1 c i ++ UK c i)) := rfl
 generalize V1 c i ++ UK c i = F at hF hsh hE'
 have hlen : ∀ σ : St,Qj .sl x σ = some (.int .i64 F.length) := fun σ => by rw [hE'.len σ,List.length_map]
 have hfr : QB Qm (mAt c (rAt c i).frame) = .list (mAt c (rAt c i).frame).1 ((Y4 c i).map Qm) := rfl
 simp only [a1,a2,hlen,hfr,List.length_map,zz,Nat.reduceEqDiff]
 refine XW (decide ((F.length : Int) > 0)) (fun _ J hJ => ?_) ?_
 ·exact hJ _ rfl
 refine orG (decide ((Y4 c i).length < F.length)) (fun _ J hJ => ?_) ?_
 ·exact hJ _ rfl
 refine Qu (fun hb => ?_) (fun hb => ?_)
 ·refine fin _ ?_
  rw [hsh,hb]
  rfl
 rw [hb] at hsh
 simp only [Bool.or_eq_false_iff,decide_eq_false_iff_not] at hb
 have hle : F.length ≤ (Y4 c i).length := by omega
 refine Qr (fun x τ' => τ' = τ ∧ Ya c i = false) (fun x τ' hx => ?_) ?_
 ·obtain ⟨rfl,hz⟩ := hx
  exact fin _ (by rw [hz]; rfl)
 refine QT F.length (fun j x' τ' => x' = Qz [(7,x),(8,.list (mAt c (rAt c i).frame).1 ((Y4 c i).map Qm)),(9,.int .i64 j)] ∧ τ' = τ ∧ (Y4 c i).take j = F.take j) ?_ ⟨rfl,rfl,rfl⟩
 rintro Φ j x' τ' hj ⟨rfl,rfl,he⟩ next
 by_cases hlt : j < F.length
 ·have hg : F[j]? = some F[j] := by simp [hlt]
  have hlt' : j < (Y4 c i).length := by omega
  have hg' : (Y4 c i)[j]? = some (Y4 c i)[j] := by simp [hlt']
  have hne : F[j] ≠ (Y4 c i)[j] → Ya c i = true := fun hn => by
   rw [hsh]
   have : (Y4 c i).take F.length ≠ F := fun e => hn (by
    have h3 : F[j]? = (Y4 c i)[j]? := by
     conv => lhs; rw [← e]
     rw [List.getElem?_take_of_lt hlt]
    rw [hg,hg'] at h3
    exact Option.some.inj h3)
   rw [decide_eq_false this]
   rfl
  generalize F[j] = s at hg hne
  generalize (Y4 c i)[j] = t at hg' hne
  obtain ⟨p,q1,q2,-⟩ := hE'.at_ (k := .i64) (i := j) (e := Qm s) (by rw [List.getElem?_map,hg]; rfl) rfl rfl
  have hadd1 : QR none .add (.int .i64 j) (.int .i64 1) = some (.int .i64 (j + 1 : Nat)) := Qi _ (by omega) (by omega)
  have p1 : Q6 true 5 (Qm s) 0 = some (Qm s) := rfl
  have p2 : Q6 true 5 (Qm t) 0 = some (Qm t) := rfl
  simp only [hlen,hlt,Vt hlt,decide_true,q1,q2,Tz.index hg',p1,p2,KM,hadd1,zz,Nat.reduceEqDiff]
  refine Qu (fun hb => ?_) (fun hb => ?_)
  ·refine fin _ ?_
   rw [hne (by simpa using hb)]
   rfl
  ·have hst : s = t := by simpa using hb
   refine next _ _ hlt ⟨rfl,rfl,?_⟩
   rw [List.take_add_one,List.take_add_one,he,hg,hg',hst]
 ·obtain rfl : j = F.length := by omega
  simp only [hlen,Nat.lt_irrefl,Z0,decide_false,zz,Nat.reduceEqDiff]
  refine ⟨trivial,?_⟩
  rw [hsh,he,List.take_length]
  simp
theorem Cp {c : Qp} {i : Nat} (ho : VF c i) (hi : (i : Int) < len c.routs) {n : Int} (hn : 0 ≤ n) : VL c i n = Y9 c n.toNat i := by
 unfold VL
 split
 ·exact (NZ ho _ _ (by omega) (by omega) (by omega)).symm
 ·rfl
theorem c66 {c : Qp} (hc : VX c) (hsig : YE c = false) {i : Nat} (hi : i < c.routs.2.length) (hp : ∀ k,k < i → Z8 c k = false) (σ : St) : Ret W 66 [Qt c,.int .i64 i] σ (.int .i64 (Xy c i)) := by
 refine QE fun R hR => ?_
 rw [DZ]
 delta qh bF pF gF kF nI nL
 have fin : ∀ n : Int,Xy c i = n → XG σ (.int .i64 n) σ fun v σ => R (.ret v) σ := fun n hb => by
  rw [hb] at hR
  exact Q2 hR
 clear hR
 have hrl := hc.routs
 have hix : Q5 9 (QB Qo c.routs) (.int .i64 i) = some (.eptr (Qo (rAt c i)) 0) := Zd X3 ZE (by omega) (by unfold len; omega)
 simp only [Qf,hix,X3.part,S4,Qy,Ql,zz,Nat.reduceEqDiff]
 refine (c75 _ _ _).Q0 ?_
 simp only [zz,Nat.reduceEqDiff]
 refine orG (!inS (rAt c i).frame (len c.maps)) (fun _ J hJ => ?_) ?_
 ·refine (c75 _ _ _).Q0 ?_
  simp only [zz,Nat.reduceEqDiff]
  exact hJ _ rfl
 refine Ve ((i : Int) == 0) (!((rAt c i).outer == -1)) (fun _ J hJ => ?_) (fun _ _ y J hJ => ?_) ?_
 ·exact hJ _ rfl
 ·exact hJ _ rfl
 refine Ve (decide ((i : Int) > 0)) (!inS (rAt c i).outer i) (fun _ J hJ => ?_) (fun _ _ y J hJ => ?_) ?_
 ·exact hJ _ rfl
 ·refine (c75 _ _ _).Q0 ?_
  simp only [zz,Nat.reduceEqDiff]
  exact hJ _ rfl
 refine Qu (fun hb => ?_) (fun hh => ?_)
 ·refine fin _ ?_
  have : Z8 c i = true := hb
  simp only [Xy,this,if_true]
 have hh' : Z8 c i = false := hh
 have ho : VF c i := Mh fun k hk => by
  rcases Nat.lt_or_eq_of_le hk with hk | rfl
  ·exact hp k hk
  ·exact hh'
 refine Qu (fun he => ?_) (fun he => ?_)
 ·refine fin _ ?_
  simp only [beq_iff_eq] at he
  simp only [Xy,hh',Bool.false_eq_true,if_false,he,if_true]
 simp only [beq_eq_false_iff_ne,ne_eq] at he
 refine Qr (fun x τ => x 1 = .int .i64 i ∧ x 6 = .int .i64 (YQ c i) ∧ x 2 = Qt c ∧ x 5 = Qo (rAt c i) ∧ τ = σ) (fun x τ hx => ?_) ?_
 case refine_2 =>
  refine Qu (fun hb => ?_) (fun hb => ?_)
  ·simp only [decide_eq_true_eq] at hb
   rw [Yh _ (by omega) (by omega)]
   have hix1 : Q5 9 (QB Qo c.routs) (.int .i64 ((i : Int) - 1)) = some (.eptr (Qo (rAt c (i - 1 : Nat))) 0) := by
    rw [show (i : Int) - 1 = ((i - 1 : Nat) : Int) by omega]
    exact Zd X3 ZE (by omega) (by unfold len; omega)
   simp only [hix1,Zx,Qy,zz,Nat.reduceEqDiff,Nat.reduceAdd]
   refine ⟨trivial,?_,trivial,trivial,trivial⟩
   simp only [YQ,if_pos hb]
  ·simp only [decide_eq_false_iff_not] at hb
   refine ⟨rfl,?_,rfl,rfl,rfl⟩
   simp only [YQ,if_neg hb]
   rfl
 obtain ⟨h1,h6,h2,h5,rfl⟩ := hx
 simp only [h1,h6,h2,h5,Qf,Qy,Ql,zz,Nat.reduceEqDiff]
 clear h1 h6 h2 h5 x
 refine orG (decide ((rAt c i).to ≤ (rAt c i).fr)) (fun _ J hJ => ?_) ?_
 ·exact hJ _ rfl
 refine Ve ((i : Int) == len c.routs - 1) (!((rAt c i).to == len c.insts)) (fun _ J hJ => ?_) (fun _ _ y J hJ => ?_) ?_
 ·rw [Yh _ (by unfold len; omega) (by unfold len; omega)]
  simp only [zz,Nat.reduceEqDiff]
  exact hJ _ rfl
 ·exact hJ _ rfl
 refine Qu (fun hb => ?_) (fun hb => ?_)
 ·refine fin _ ?_
  have : Vx c i = true := hb
  simp only [Xy,hh',Bool.false_eq_true,if_false,he,if_true,this]
 have hob : Vx c i = false := hb
 clear hb
 have hhc := hh'
 simp only [Z8,Bool.or_eq_false_iff,Bool.not_eq_false',inS,Bool.and_eq_true,decide_eq_true_eq] at hhc
 obtain ⟨⟨⟨⟨hs0,hs1⟩,hf0,hf1⟩,-⟩,hout⟩ := hhc
 have hsg : inS (sAt c (rAt c i).sig).1 (len c.maps) = true ∧ inS (sAt c (rAt c i).sig).2 (len c.maps) = true := by
  have hm : sAt c (rAt c i).sig ∈ c.sigs.2 := by
   have hn : (rAt c i).sig.toNat < c.sigs.2.length := by unfold len at hs1; omega
   simp [sAt,atI,List.getD_eq_getElem?_getD,hn]
  have := List.any_eq_false.1 hsig _ hm
  simpa using this
 obtain ⟨hsg1,hsg2⟩ := hsg
 simp only [inS,Bool.and_eq_true,decide_eq_true_eq] at hsg1 hsg2
 have ix1 : Q5 2 (QB Qw c.sigs) (.int .i64 (rAt c i).sig) = some (.eptr (Qw (sAt c (rAt c i).sig)) 0) := Zd ZB (0,0) hs0 hs1
 have ix2 : Q5 1 (QB Xj c.maps) (.int .i64 (sAt c (rAt c i).sig).2) = some (.eptr (Xj (mAt c (sAt c (rAt c i).sig).2)) 0) := Zd Ze (.nil,[]) hsg2.1 hsg2.2
 have ix3 : Q5 1 (QB Xj c.maps) (.int .i64 (sAt c (rAt c i).sig).1) = some (.eptr (Xj (mAt c (sAt c (rAt c i).sig).1)) 0) := Zd Ze (.nil,[]) hsg1.1 hsg1.2
 have ix4 : Q5 1 (QB Xj c.maps) (.int .i64 (rAt c i).frame) = some (.eptr (Xj (mAt c (rAt c i).frame)) 0) := Zd Ze (.nil,[]) hf0 hf1
 have hml : ∀ k : Int,(mAt c k).2.length ≤ 1048576 := fun k => by
  unfold mAt atI
  rw [List.getD_eq_getElem?_getD]
  cases hk : c.maps.2[k.toNat]? with
  | none => simp
  | some m => exact hc.slots m (List.mem_of_getElem? hk)
 refine (c124 hc hsig hi hh' _).Q0 ?_
 simp only [zz,Nat.reduceEqDiff]
 refine Qu (fun hb => ?_) (fun hb => ?_)
 ·refine fin _ ?_
  have : Ya c i = true := by simpa using hb
  simp only [Xy,hh',Bool.false_eq_true,if_false,he,if_true,hob,this]
 have hsb : Ya c i = false := by simpa using hb
 clear hb
 simp only [ix1,ix2,ix3,ix4,ZB.part,T2,Qy,Zx,V2,Ql,zz,Nat.reduceEqDiff,Nat.reduceAdd]
 have hrg : (rAt c i).ranges.2.length ≤ 1048576 := by
  have hm : rAt c i ∈ c.routs.2 := by
   simp [rAt,atI,List.getD_eq_getElem?_getD,hi]
  exact hc.ranges _ hm
 refine Qr (fun x τ' => x 1 = .int .i64 i ∧ x 2 = Qt c ∧ x 5 = Qo (rAt c i) ∧ τ' = τ ∧ SA c i = 0) (fun x τ' hx => ?_) ?_
 case refine_2 =>
  refine YT (rAt c i).ranges.2.length (fun k => Ub (V1 c i).length (Y4 c i).length k ((rAt c i).ranges.2.getD k TI))
   (fun j => Qz [(1,.int .i64 i),(7,.int .i64 (Y4 c i).length),(8,.int .i64 (V1 c i).length),(9,.int .i64 j),(2,Qt c),(5,Qo (rAt c i))]) _ rfl (fun hall Φ => ?_) (fun Φ j hj hpre hhit next => ?_)
  ·simp only [Qy,Ql,QG,Nat.lt_irrefl,decide_false,zz,Nat.reduceEqDiff]
   exact ⟨trivial,trivial,trivial,trivial,XZ hall⟩
  have hg : (rAt c i).ranges.2[j]? = some ((rAt c i).ranges.2.getD j TI) := by simp [List.getD_eq_getElem?_getD,hj]
  have hre : ∀ n : Int,n ≠ 0 → Ub (V1 c i).length (Y4 c i).length j ((rAt c i).ranges.2.getD j TI) = n → Xy c i = n := fun n hn hr => by
   have h1 : SA c i = n := by
    rw [← hr]
    exact hhit (by rw [hr]; exact hn)
   simp only [Xy,hh',Bool.false_eq_true,if_false,he,hob,hsb,h1]
   rw [if_pos hn]
  generalize (rAt c i).ranges.2.getD j TI = g at hg hre next
  simp only [Qy,Ql,Xk hj,hj,decide_true,QV PG hg,OZ,Ll,List.length_map,zz,Nat.reduceEqDiff]
  refine XW (!(g.outer == -1)) (fun _ J hJ => ?_) ?_
  ·exact hJ _ rfl
  refine Ve (decide ((j : Int) > 0)) (!inS g.outer j) (fun _ J hJ => ?_) (fun _ _ y J hJ => ?_) ?_
  ·exact hJ _ rfl
  ·refine (c75 _ _ _).Q0 ?_
   simp only [zz,Nat.reduceEqDiff]
   exact hJ _ rfl
  refine Qu (fun hb => ?_) (fun hb1 => ?_)
  ·refine fin _ (hre 10 (by omega) ?_)
   simp only [Ub,hb,if_true]
  refine orG (decide (g.fr > g.to)) (fun _ J hJ => ?_) ?_
  ·exact hJ _ rfl
  refine orG (decide (g.to > (Y4 c i).length)) (fun _ J hJ => ?_) ?_
  ·exact hJ _ rfl
  refine Qu (fun hb => ?_) (fun hb => ?_)
  ·refine fin _ (hre 11 (by omega) ?_)
   simp only [Ub,hb1,hb,Bool.false_eq_true,if_false,if_true]
  ·rw [Qi _ (by omega) (by omega)]
   simp only [zz,Nat.reduceEqDiff]
   refine next ?_
   simp only [Ub,hb1,hb,Bool.false_eq_true,if_false]
 obtain ⟨h1,h2,h5,rfl,hrr⟩ := hx
 simp only [h1,h2,h5,Qf,Qy,Ql,zz,Nat.reduceEqDiff]
 refine XW (!((rAt c i).within == -1)) (fun _ J hJ => ?_) ?_
 ·exact hJ _ rfl
 refine Ve (decide ((i : Int) > 0)) (!inS (rAt c i).within (len (rAt c (rAt c i).outer).ranges)) (fun _ J hJ => ?_) (fun _ hA y J hJ => ?_) ?_
 ·exact hJ _ rfl
 ·simp only [hA,Bool.true_and,Bool.not_eq_false',Bool.and_eq_true,decide_eq_true_eq] at hout
  have hix5 : Q5 9 (QB Qo c.routs) (.int .i64 (rAt c i).outer) = some (.eptr (Qo (rAt c (rAt c i).outer)) 0) := Zd X3 ZE hout.1 (by unfold len; omega)
  simp only [hix5,Zx,Qy,Ql,zz,Nat.reduceEqDiff,Nat.reduceAdd]
  refine (c75 _ _ _).Q0 ?_
  simp only [zz,Nat.reduceEqDiff]
  exact hJ _ rfl
 refine orG (decide ((rAt c i).level < 0)) (fun _ J hJ => ?_) ?_
 ·exact hJ _ rfl
 refine Ve ((rAt c i).level == 0) (!((rAt c i).needs == 0)) (fun _ J hJ => ?_) (fun _ hA y J hJ => ?_) ?_
 ·exact hJ _ rfl
 ·exact hJ _ rfl
 refine Qu (fun hb => ?_) (fun hb => ?_)
 ·refine fin _ ?_
  have : PF c i = true := hb
  simp only [Xy,hh',Bool.false_eq_true,if_false,he,hob,hsb,hrr,this,ne_eq,not_true,if_true]
 have hbb : PF c i = false := hb
 clear hb
 have hre : ∀ n : Int,(if (rAt c i).level > 0 then (if PZ c i then (11 : Int) else 0) else 0) = n → Xy c i = n := fun n h => by
  rw [← h]
  simp only [Xy,hh',Bool.false_eq_true,if_false,he,hob,hsb,hrr,hbb,ne_eq,not_true]
 refine Qr (fun x τ => τ = τ' ∧ Xy c i = 0) (fun x τ hx => ?_) ?_
 ·obtain ⟨rfl,hz⟩ := hx
  exact fin _ hz
 refine Qu (fun hl => ?_) (fun hl => ?_)
 ·simp only [decide_eq_true_eq] at hl
  rw [if_pos hl] at hre
  refine (BI hc ho (by unfold len; omega) (by omega) (by omega) _).Q0 ?_
  rw [Cp ho (by unfold len; omega) (by omega)]
  unfold PZ at hre
  generalize hfu : Y9 c (rAt c i).level.toNat i = f at hre
  have hfb := YI ho (rAt c i).level.toNat i (by omega) (by omega)
  rw [hfu] at hfb
  simp only [zz,Nat.reduceEqDiff]
  refine orG (!inS (rAt c i).needs (len (rAt c f).ranges)) (fun hf J hJ => ?_) ?_
  ·simp only [decide_eq_false_iff_not] at hf
   have hix6 : Q5 9 (QB Qo c.routs) (.int .i64 f) = some (.eptr (Qo (rAt c f)) 0) := Zd X3 ZE (by omega) (by unfold len; omega)
   simp only [hix6,Zx,Qy,Ql,zz,Nat.reduceEqDiff,Nat.reduceAdd]
   refine (c75 _ _ _).Q0 ?_
   simp only [zz,Nat.reduceEqDiff]
   exact hJ _ rfl
  refine Qu (fun hb => ?_) (fun hb => ?_)
  ·refine fin _ (hre 11 ?_)
   rw [hb,if_pos rfl]
  ·refine ⟨rfl,hre 0 ?_⟩
   rw [hb,if_neg (by simp)]
 ·simp only [decide_eq_false_iff_not] at hl
  refine ⟨rfl,hre 0 ?_⟩
  rw [if_neg hl]
end Go.Proofs.YtgghfcchanilpaaGreatDoor
