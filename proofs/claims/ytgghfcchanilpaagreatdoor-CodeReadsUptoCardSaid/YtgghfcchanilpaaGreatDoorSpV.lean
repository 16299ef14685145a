import Derived.Test.YtgghfcchanilpaaGreatDoorSpT
import Derived.Test.YtgghfcchanilpaaGreatDoorSpD
set_option linter.unusedVariables false
set_option linter.unusedSimpArgs false
namespace Go.Proofs.YtgghfcchanilpaaGreatDoor
open Go Go.Abs
def Na (r : Vv) (k : Int) : Bool := decide (k < r.fr) || decide (k ≥ r.to)
def L8 (k : Int) : Bool := decide (k < -1) || decide (k ≥ 64)
theorem c229 (r : Vv) (k : Int) (σ : St) : Ret W 229 [.int .i64 k,.ptr σ.length 0 0 0] (σ ++ [.arr 0 9 [Qo r]]) (.bool (Na r k)) := by
 refine QE fun R hR => ?_
 rw [GS]
 delta Bx bF gF
 have hl2 : Q4 false 1 (.ptr σ.length 0 0 2) (σ ++ [.arr 0 9 [Qo r]]) = some (.int .i64 r.fr) := by
  simp only [Q4,Sv]
  rfl
 have hl3 : Q4 false 1 (.ptr σ.length 0 0 3) (σ ++ [.arr 0 9 [Qo r]]) = some (.int .i64 r.to) := by
  simp only [Q4,Sv]
  rfl
 simp only [fld,hl2,hl3,zz,Nat.reduceEqDiff,Nat.reduceAdd]
 refine orG (decide (k ≥ r.to)) (fun _ J hJ => hJ _ rfl) ?_
 exact Q2 hR
theorem c230 (k : Int) (σ : St) : Ret W 230 [.int .i64 k] σ (.bool (L8 k)) := by
 refine QE fun R hR => ?_
 rw [Fb]
 delta B7 bF gF nI
 simp only [zz,Nat.reduceEqDiff]
 refine orG (decide (k ≥ 64)) (fun _ J hJ => hJ _ rfl) ?_
 exact Q2 hR
theorem LN (σ : St) (r : Vv) : QQ 9 (.ptr σ.length 0 0 0) (Qo r) (σ ++ [.arr 0 9 [.agg [(.int .i64 0),(.int .i64 0),(.int .i64 0),(.int .i64 0),(.int .i64 0),(.int .i64 0),(.int .i64 0),(.int .i64 0),(.list .nil [])]]]) = some (σ ++ [.arr 0 9 [Qo r]]) := by
 simp [QQ,S4]
def SQ (c : Qp) (i : Xz) (r : Int) : Bool := (len (atI (.nil,[]) c.jumps i.k) == 0) || (atI (.nil,[]) c.jumps i.k).2.any (Na (rAt c r))
def ZA (c : Qp) (i : Xz) (r : Int) : Int :=
 if i.op = 11 ∨ i.op = 12 ∨ i.op = 19 then (if SQ c i r then 11 else 0)
 else if i.op = 23 then (if (atI (.nil,[]) c.parts i.k).2.any L8 then 11 else 0) else 0
theorem c121 {c : Qp} (hc : VX c) (a b : Int) (i : Xz) {r : Int} (h0 : 0 ≤ r) (h1 : r < len c.routs) (hjk : i.op = 11 ∨ i.op = 12 ∨ i.op = 19 → 0 ≤ i.k ∧ i.k < len c.jumps) (hpk : i.op = 23 → 0 ≤ i.k ∧ i.k < len c.parts) (σ : St) :
  Ret W 121 [X2 c a b,QD i,.int .i64 r] σ (.int .i64 (ZA c i r)) := by
 refine QE fun R hR => ?_
 rw [GX]
 delta CF bF pF gF kF nI nL
 have fin : ∀ (τ : St),σ <+: τ → ∀ v : Int,ZA c i r = v → XG σ (.int .i64 v) τ fun v σ => R (.ret v) σ := fun τ hp v hv => by
  rw [hv] at hR
  exact Yi hp (Se (.int _ _)) hR
 clear hR
 have hixr : Q5 9 (QB Qo c.routs) (.int .i64 r) = some (.eptr (Qo (rAt c r)) 0) := Zd X3 ZE h0 h1
 have h09 : (0 : Nat) < 9 := by omega
 simp only [QU,XQ,zz,Nat.reduceEqDiff]
 refine Qr (fun x τ => ZA c i r = 0 ∧ σ <+: τ) (fun x τ hx => fin τ hx.2 0 hx.1) ?_
 refine S6 (fun hl => ?_) (fun hl1 => ?_)
 ·refine S6 (fun hl => ?_) (fun hn => absurd hl hn)
  have hk := hjk (by omega)
  have hix : Q5 1 (QB QP c.jumps) (.int .i64 i.k) = some (.eptr (QP (atI (.nil,[]) c.jumps i.k)) 0) := Zd Xo (.nil,[]) hk.1 hk.2
  have hts : ZA c i r = if SQ c i r then 11 else 0 := by
   simp only [ZA]
   rw [if_pos (by omega)]
  have htl : (atI (.nil,[]) c.jumps i.k).2.length ≤ 1048576 := by
   unfold atI
   rw [List.getD_eq_getElem?_getD]
   cases hq : c.jumps.2[i.k.toNat]? with
   | none => simp
   | some m => exact hc.jump m (List.mem_of_getElem? hq)
  unfold SQ at hts
  generalize atI (.nil,[]) c.jumps i.k = t at hix hts htl
  have hlt : ∀ σ : St,Qj .sl (QP t) σ = some (.int .i64 (len t)) := fun σ => Ql _ _ _
  simp only [hix,Xo.part,hixr,X3.part,Vo,LN,h09,if_true,hlt,zz,Nat.reduceEqDiff]
  refine orG (t.2.any (Na (rAt c r))) (fun _ J hJ => ?_) ?_
  ·refine (Ew encI (Na (rAt c r)) (by kernel_rfl) (by omega) (fun m _ => c229 (rAt c r) m σ)).Q0 ?_
   exact hJ _ rfl
  refine Qu (fun hb => ?_) (fun hb => ?_)
  ·rw [hb,if_pos rfl] at hts
   exact fin _ (List.prefix_append _ _) 11 hts
  ·rw [hb,if_neg (by simp)] at hts
   exact ⟨hts,List.prefix_append _ _⟩
 refine S6 (fun hl => ?_) (fun hl2 => ?_)
 ·refine S6 (fun hl => ?_) (fun hn => absurd hl hn)
  have hk := hjk (by omega)
  have hix : Q5 1 (QB QP c.jumps) (.int .i64 i.k) = some (.eptr (QP (atI (.nil,[]) c.jumps i.k)) 0) := Zd Xo (.nil,[]) hk.1 hk.2
  have hts : ZA c i r = if SQ c i r then 11 else 0 := by
   simp only [ZA]
   rw [if_pos (by omega)]
  have htl : (atI (.nil,[]) c.jumps i.k).2.length ≤ 1048576 := by
   unfold atI
   rw [List.getD_eq_getElem?_getD]
   cases hq : c.jumps.2[i.k.toNat]? with
   | none => simp
   | some m => exact hc.jump m (List.mem_of_getElem? hq)
  unfold SQ at hts
  generalize atI (.nil,[]) c.jumps i.k = t at hix hts htl
  have hlt : ∀ σ : St,Qj .sl (QP t) σ = some (.int .i64 (len t)) := fun σ => Ql _ _ _
  simp only [hix,Xo.part,hixr,X3.part,Vo,LN,h09,if_true,hlt,zz,Nat.reduceEqDiff]
  refine orG (t.2.any (Na (rAt c r))) (fun _ J hJ => ?_) ?_
  ·refine (Ew encI (Na (rAt c r)) (by kernel_rfl) (by omega) (fun m _ => c229 (rAt c r) m σ)).Q0 ?_
   exact hJ _ rfl
  refine Qu (fun hb => ?_) (fun hb => ?_)
  ·rw [hb,if_pos rfl] at hts
   exact fin _ (List.prefix_append _ _) 11 hts
  ·rw [hb,if_neg (by simp)] at hts
   exact ⟨hts,List.prefix_append _ _⟩
 refine S6 (fun hl => ?_) (fun hl3 => ?_)
 ·have hk := hjk (by omega)
  have hix : Q5 1 (QB QP c.jumps) (.int .i64 i.k) = some (.eptr (QP (atI (.nil,[]) c.jumps i.k)) 0) := Zd Xo (.nil,[]) hk.1 hk.2
  have hts : ZA c i r = if SQ c i r then 11 else 0 := by
   simp only [ZA]
   rw [if_pos (by omega)]
  have htl : (atI (.nil,[]) c.jumps i.k).2.length ≤ 1048576 := by
   unfold atI
   rw [List.getD_eq_getElem?_getD]
   cases hq : c.jumps.2[i.k.toNat]? with
   | none => simp
   | some m => exact hc.jump m (List.mem_of_getElem? hq)
  unfold SQ at hts
  generalize atI (.nil,[]) c.jumps i.k = t at hix hts htl
  have hlt : ∀ σ : St,Qj .sl (QP t) σ = some (.int .i64 (len t)) := fun σ => Ql _ _ _
  simp only [hix,Xo.part,hixr,X3.part,Vo,LN,h09,if_true,hlt,zz,Nat.reduceEqDiff]
  refine orG (t.2.any (Na (rAt c r))) (fun _ J hJ => ?_) ?_
  ·refine (Ew encI (Na (rAt c r)) (by kernel_rfl) (by omega) (fun m _ => c229 (rAt c r) m σ)).Q0 ?_
   exact hJ _ rfl
  refine Qu (fun hb => ?_) (fun hb => ?_)
  ·rw [hb,if_pos rfl] at hts
   exact fin _ (List.prefix_append _ _) 11 hts
  ·rw [hb,if_neg (by simp)] at hts
   exact ⟨hts,List.prefix_append _ _⟩
 refine S6 (fun hl => ?_) (fun hl4 => ?_)
 ·have hk := hpk hl
  have hix : Q5 1 (QB QP c.parts) (.int .i64 i.k) = some (.eptr (QP (atI (.nil,[]) c.parts i.k)) 0) := Zd Xo (.nil,[]) hk.1 hk.2
  have hts : ZA c i r = if (atI (.nil,[]) c.parts i.k).2.any L8 then 11 else 0 := by
   simp only [ZA]
   rw [if_neg (by omega),if_pos hl]
  have htl : (atI (.nil,[]) c.parts i.k).2.length ≤ 1048576 := by
   unfold atI
   rw [List.getD_eq_getElem?_getD]
   cases hq : c.parts.2[i.k.toNat]? with
   | none => simp
   | some m => exact hc.part m (List.mem_of_getElem? hq)
  generalize atI (.nil,[]) c.parts i.k = t at hix hts htl
  simp only [hix,Xo.part,zz,Nat.reduceEqDiff]
  refine (Ew encI L8 (by kernel_rfl) (by omega) (fun m _ => c230 m σ)).Q0 ?_
  refine Qu (fun hb => ?_) (fun hb => ?_)
  ·rw [hb,if_pos rfl] at hts
   exact fin _ (List.prefix_refl _) 11 hts
  ·rw [hb,if_neg (by simp)] at hts
   exact ⟨hts,List.prefix_refl _⟩
 ·refine ⟨?_,List.prefix_refl _⟩
  simp only [ZA]
  rw [if_neg (by omega),if_neg hl4]
end Go.Proofs.YtgghfcchanilpaaGreatDoor
namespace Go.Proofs.YtgghfcchanilpaaGreatDoor
open Go Go.Abs
def By : Xz := ⟨0,⟨0,0,0⟩,⟨0,0,0⟩,⟨0,0,0⟩,0,0⟩
def iAt (c : Qp) (k : Int) : Xz := atI By c.insts k
def lf (op : Int) (k : Nat) : Int := (((ZN op).getD k 0).toNat : Int)
def Us (c : Qp) (i : Xz) (r : Int) : Bool := !Xi c i.s (lf i.op 0) r || !Xi c i.t (lf i.op 1) r || !Xi c i.d (lf i.op 2) r
def NT (c : Qp) (a b : Int) (i : Xz) (r : Int) : Bool := !Tc c i (lf i.op 3) || !ZL c a b i (lf i.op 4) r
def VR (c : Qp) (a b : Int) (i : Xz) (r : Int) : Int :=
 if !Zo i.op then 13 else if Us c i r then 7 else if NT c a b i r then 11 else ZA c i r
theorem D0 : ∀ n : Fin 40,(ZN ((n.val : Nat) : Int)).length = 5 := by decide +kernel
theorem Lw {op : Int} (h : Zo op = true) : (ZN op).length = 5 := by
 have h' := T5.1 h
 have := D0 ⟨op.toNat,by omega⟩
 simp only [Int.toNat_of_nonneg h'.1] at this
 exact this
theorem Sn {op : Int} (h : Zo op = true) {k : Nat} (hk : k < 5) {q : IntKind} : Xt (.str (ZN op)) (.int q k) = some (.int .u8 (lf op k)) := by
 have hl := Lw h
 have hk' : k < (ZN op).length := by omega
 simp [Xt,lf,List.getD_eq_getElem?_getD,hk']
theorem GW (i : Xz) : Qv 12 (.agg [(.int .i64 0),(.int .i64 0),(.int .i64 0),(.int .i64 0),(.int .i64 0),(.int .i64 0),(.int .i64 0),(.int .i64 0),(.int .i64 0),(.int .i64 0),(.int .i64 0),(.int .i64 0)]) 0 (QD i) = some (QD i) := rfl
theorem SZ (i : Xz) : Q6 true 3 (QD i) 1 = some (XX i.s) ∧ Q6 true 3 (QD i) 4 = some (XX i.t) ∧ Q6 true 3 (QD i) 7 = some (XX i.d) ∧ Q6 true 12 (QD i) 0 = some (QD i) := ⟨rfl,rfl,rfl,rfl⟩
theorem Gk (a b c : Za) : QI 3 (List.replicate 3 (.agg [(.int .i64 0),(.int .i64 0),(.int .i64 0)])) [(0,XX a),(1,XX b),(2,XX c)] = some ([a,b,c].map XX) := rfl
theorem JA : Zr XX true 3 := ⟨fun _ => ⟨_,rfl,rfl⟩,fun _ => rfl⟩
theorem HP (o : Za) : Qv 3 (.agg [(.int .i64 0),(.int .i64 0),(.int .i64 0)]) 0 (XX o) = some (XX o) := rfl
theorem lf_c {op : Int} (h : op = 11 ∨ op = 12 ∨ op = 19) : lf op 4 = 99 := by
 rcases h with rfl | rfl | rfl <;> rfl
theorem lf_p {op : Int} (h : op = 23) : lf op 4 = 112 := by subst h; rfl
theorem c63 {c : Qp} (hc : VX c) (hf : Fit c) (a b : Int) {k : Nat} (hk : k < c.insts.2.length) (hok : (iAt c k).ok = true) (h0 : 0 ≤ idxOf (inR k) c.routs.2 0) (h1 : idxOf (inR k) c.routs.2 0 < len c.routs) (σ : St) :
  Ret W 63 [X2 c a b,.int .i64 k] σ (.int .i64 (VR c a b (iAt c k) (idxOf (inR k) c.routs.2 0))) := by
 refine QE fun R hR => ?_
 rw [DR]
 delta Al bF pF gF kF nI
 have hix : Q5 12 (QB QD c.insts) (.int .i64 k) = some (.eptr (QD (iAt c k)) 0) := Zd TK By (by omega) (by unfold len; omega)
 generalize iAt c k = i at hix hok hR
 simp only [QU,hix,TK.part,GW,XQ,SZ,zz,Nat.reduceEqDiff]
 refine (c39 _ _).Q0 ?_
 simp only [zz,Nat.reduceEqDiff]
 have fin : ∀ v : Int,VR c a b i (idxOf (inR k) c.routs.2 0) = v → XG σ (.int .i64 v) σ fun v σ => R (.ret v) σ := fun v hv => by
  rw [hv] at hR
  exact Q2 hR
 clear hR
 refine Qu (fun hn => ?_) (fun hn => ?_)
 ·refine fin _ ?_
  simp only [VR,hn,if_true]
 have hkn : Zo i.op = true := by simpa using hn
 refine (c72 hc a b k _).Q0 ?_
 generalize idxOf (inR k) c.routs.2 0 = r at h0 h1 fin
 obtain ⟨n,rfl⟩ := Int.eq_ofNat_of_zero_le h0
 have hnl : n < c.routs.2.length := by unfold len at h1; omega
 have hform : (VH i.op).2 = ZN i.op := by simp only [ZN,hkn,if_true]
 simp only [A3 hkn,DP,(EB hkn).2,hform,Gk,zz,Nat.reduceEqDiff]
 have hbs : ∀ o ∈ [i.s,i.t,i.d],o.b < 9223372036854775808 := by
  intro o ho
  simp only [Xz.ok,Za.ok,VU,Bool.and_eq_true,decide_eq_true_eq] at hok
  simp at ho
  rcases ho with rfl | rfl | rfl <;> omega
 have hmb : Us c i n = (!Xi c i.s (lf i.op 0) n || !Xi c i.t (lf i.op 1) n || !Xi c i.d (lf i.op 2) n) := rfl
 refine QT 3 (fun j x τ => x = Qz [(6,.int .i64 n),(7,.str (ZN i.op)),(34,.list .full ([i.s,i.t,i.d].map XX)),(35,.int .i64 3),(36,.int .i64 j),(2,X2 c a b),(5,QD i)] ∧ τ = σ ∧
  ∀ m o,m < j → [i.s,i.t,i.d][m]? = some o → Xi c o (lf i.op m) n = true) ?_ ⟨rfl,rfl,fun m o h => by omega⟩
 rintro Φ j x τ hj ⟨rfl,rfl,hp⟩ next
 by_cases hlt : j < 3
 ·have hg : ∃ o,[i.s,i.t,i.d][j]? = some o := by
   have : j < [i.s,i.t,i.d].length := hlt
   exact ⟨_,List.getElem?_eq_getElem this⟩
  obtain ⟨o,hg⟩ := hg
  have hmem := List.mem_of_getElem? hg
  have e1 : decide ((j : Int) < 3) = true := decide_eq_true (by omega)
  have hio : Q5 3 (.list .full ([i.s,i.t,i.d].map XX)) (.int .i64 j) = some (.eptr (XX o) 0) := JA.index hg
  simp only [e1,hio,JA.part,HP,QU,Sn hkn (show j < 5 by omega),zz,Nat.reduceEqDiff]
  refine (c118 hf hnl a b h0 (by omega) o (hbs o hmem) _ _).Q0 ?_
  simp only [zz,Nat.reduceEqDiff]
  refine Qu (fun hb => ?_) (fun hb => ?_)
  ·refine fin _ ?_
   have hmt : Us c i n = true := by
    rw [hmb]
    match j,hlt with
    | 0,_ => simp at hg; subst hg; simp at hb; simp [hb]
    | 1,_ => simp at hg; subst hg; simp at hb; simp [hb]
    | 2,_ => simp at hg; subst hg; simp at hb; simp [hb]
   simp only [VR,hkn,hmt,Bool.not_true,Bool.false_eq_true,if_false,if_true]
  ·have hadd : QR none .add (.int .i64 j) (.int .i64 1) = some (.int .i64 (j + 1 : Nat)) := Qi _ (by omega) (by omega)
   simp only [hadd,zz,Nat.reduceEqDiff]
   refine next _ _ hlt ⟨rfl,rfl,fun m o' hm ho' => ?_⟩
   rcases Nat.lt_succ_iff_lt_or_eq.1 hm with hm | rfl
   ·exact hp m o' hm ho'
   ·rw [hg] at ho'
    cases ho'
    simpa using hb
 obtain rfl : j = 3 := by omega
 have hmf : Us c i n = false := by
  rw [hmb,hp 0 i.s (by omega) rfl,hp 1 i.t (by omega) rfl,hp 2 i.d (by omega) rfl]
  rfl
 have e1 : decide (((3 : Nat) : Int) < 3) = false := rfl
 have s3 : Xt (.str (ZN i.op)) (.int .i64 3) = some (.int .u8 (lf i.op 3)) := Sn (k := 3) hkn (by omega)
 have s4 : Xt (.str (ZN i.op)) (.int .i64 4) = some (.int .u8 (lf i.op 4)) := Sn (k := 4) hkn (by omega)
 simp only [e1,QU,SZ,s3,s4,zz,Nat.reduceEqDiff]
 refine (c119 c a b i _ _ _).Q0 ?_
 simp only [zz,Nat.reduceEqDiff]
 refine orG (!ZL c a b i (lf i.op 4) n) (fun _ J hJ => ?_) ?_
 ·refine (c120 hf hnl a b i (hbs i.s (by simp)) _ h0 (by omega) _).Q0 ?_
  simp only [zz,Nat.reduceEqDiff]
  exact hJ _ rfl
 refine Qu (fun hb => ?_) (fun hb => ?_)
 ·refine fin _ ?_
  have : NT c a b i n = true := hb
  simp only [VR,hkn,hmf,this,Bool.not_true,Bool.false_eq_true,if_false,if_true]
 have hnb : NT c a b i n = false := hb
 have h2 : ZL c a b i (lf i.op 4) n = true := by
  simp only [Bool.or_eq_false_iff,Bool.not_eq_false'] at hb
  exact hb.2
 refine (c121 hc a b i h0 h1 (fun ho => ?_) (fun ho => ?_) _).Q0 ?_
 ·rw [lf_c ho] at h2
  have h3 : inS i.k (len c.jumps) = true := h2
  simp only [inS,Bool.and_eq_true,decide_eq_true_eq] at h3
  exact h3
 ·rw [lf_p ho] at h2
  have h3 : inS i.k (len c.parts) = true := h2
  simp only [inS,Bool.and_eq_true,decide_eq_true_eq] at h3
  exact h3
 ·refine fin _ ?_
  simp only [VR,hkn,hmf,hnb,Bool.not_true,Bool.false_eq_true,if_false]
end Go.Proofs.YtgghfcchanilpaaGreatDoor
