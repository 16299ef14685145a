import Derived.Test.YtgghfcchanilpaaGreatDoorSpO
import Derived.Lib.IndexMore
import Derived.Test.YtgghfcchanilpaaGreatDoorPlE
set_option linter.unusedVariables false
set_option linter.unusedSimpArgs false
namespace Go.Proofs.YtgghfcchanilpaaGreatDoor
open Go Go.Abs
def SL (l : Sl (Sl Int)) : Bool := U5 l || decide (len l > 16384)
theorem BM {l : Sl (Sl Int)} (hl : l.2.length ≤ 1048576) (σ : St) : Ret W 122 [QB QP l] σ (.bool (SL l)) := by
 refine QE fun R hR => ?_
 rw [Gt]
 delta BC bF kF nI
 simp only [zz,Nat.reduceEqDiff]
 refine Qr (fun x τ => x 0 = QB QP l ∧ τ = σ ∧ U5 l = false) (fun x τ hx => ?_) ?_
 ·obtain ⟨h0,rfl,hb⟩ := hx
  unfold SL at hR
  rw [hb,Bool.false_or] at hR
  simp only [h0,Ql,zz,Nat.reduceEqDiff]
  exact Q2 hR
 refine Z9 l.2 (fun t => decide (len t > 4000)) (fun j => Qz [(0,QB QP l),(3,.int .i64 j)]) _ rfl (fun hb Φ => ?_) (fun Φ j t hg hmem hj hit next => ?_)
 ·simp only [Ql,QG,Nat.lt_irrefl,decide_false,zz,Nat.reduceEqDiff]
  exact ⟨trivial,trivial,hb⟩
 have ht : Qj .sl (QP t) σ = some (.int .i64 (len t)) := Ql _ _ _
 simp only [Ql,Xk hj,hj,decide_true,QV Xo hg,Xo.part,ht,zz,Nat.reduceEqDiff]
 refine Qu (fun hb => ?_) (fun hb => ?_)
 ·have h1 : U5 l = true := hit hb
  unfold SL at hR
  rw [h1,Bool.true_or] at hR
  exact Q2 hR
 ·rw [Qi _ (by omega) (by omega)]
  simp only [zz,Nat.reduceEqDiff]
  exact next hb
theorem Da (c : Qp) : OU c = ((decide (len c.insts > 16384) || decide (len c.maps > 16384) || decide (len c.sigs > 16384) || decide (len c.routs > 16384) || decide (len c.texts > 16384) || decide (len c.trans > 16384) || decide (len c.lines > 16384) || SL c.unions || SL c.jumps || SL c.parts) ||
   (c.maps.2.any fun m => decide (len m > 1000)) || (c.routs.2.any fun r => decide (len r.ranges > 4000)) || (c.texts.2.any fun s => decide ((s.length : Int) > 65536))) := by
  simp only [OU,M3,T6,SL,List.any_cons,List.any_nil]
  generalize decide (len c.insts > 16384) = b1
  generalize decide (len c.maps > 16384) = b2
  generalize decide (len c.sigs > 16384) = b3
  generalize decide (len c.routs > 16384) = b4
  generalize decide (len c.texts > 16384) = b5
  generalize decide (len c.trans > 16384) = b6
  generalize decide (len c.lines > 16384) = b7
  generalize decide (len c.unions > 16384) = b8
  generalize decide (len c.jumps > 16384) = b9
  generalize decide (len c.parts > 16384) = b10
  generalize U5 c.unions = d1
  generalize U5 c.jumps = d2
  generalize U5 c.parts = d3
  generalize (c.maps.2.any fun m => decide (len m > 1000)) = d4
  generalize (c.routs.2.any fun r => decide (len r.ranges > 4000)) = d5
  generalize (c.texts.2.any fun s => decide ((s.length : Int) > 65536)) = d6
  simp only [Bool.or_false]
  ac_rfl
theorem c64 {c : Qp} (hc : VX c) (σ : St) : Ret W 64 [Qt c] σ (.bool (!OU c)) := by
 refine QE fun R hR => ?_
 rw [DF]
 delta qR bF pF gF kF nI
 have hm := hc.maps
 have hu := hc.unions
 have hr := hc.routs
 have ht := hc.texts
 have fin : ∀ b : Bool,OU c = !b → XG σ (.bool b) σ fun v σ => R (.ret v) σ := fun n hb => by
  rw [hb,Bool.not_not] at hR
  exact Q2 hR
 clear hR
 have hov := Da c
 simp only [Qf,Ql,zz,Nat.reduceEqDiff]
 refine orG (decide (len c.maps > 16384)) (fun _ J hJ => hJ _ rfl) ?_
 refine orG (decide (len c.sigs > 16384)) (fun _ J hJ => hJ _ rfl) ?_
 refine orG (decide (len c.routs > 16384)) (fun _ J hJ => hJ _ rfl) ?_
 refine orG (decide (len c.texts > 16384)) (fun _ J hJ => hJ _ rfl) ?_
 refine orG (decide (len c.trans > 16384)) (fun _ J hJ => hJ _ rfl) ?_
 refine orG (decide (len c.lines > 16384)) (fun _ J hJ => hJ _ rfl) ?_
 refine orG (SL c.unions) (fun _ J hJ => ?_) ?_
 ·refine (BM hc.unions _).Q0 ?_
  exact hJ _ rfl
 refine orG (SL c.jumps) (fun _ J hJ => ?_) ?_
 ·refine (BM hc.jumps _).Q0 ?_
  exact hJ _ rfl
 refine orG (SL c.parts) (fun _ J hJ => ?_) ?_
 ·refine (BM hc.parts _).Q0 ?_
  exact hJ _ rfl
 refine Qu (fun hb => ?_) (fun hb => ?_)
 ·refine fin _ ?_
  rw [hov,hb]
  rfl
 rw [hb,Bool.false_or] at hov
 clear hb
 refine Qr (fun x τ => x 1 = Qt c ∧ τ = σ ∧ (c.maps.2.any fun m => decide (len m > 1000)) = false) (fun x τ hx => ?_) ?_
 case refine_2 =>
  refine Z9 c.maps.2 (fun m => decide (len m > 1000)) (fun j => Qz [(3,.int .i64 j),(1,Qt c)]) _ rfl (fun hb Φ => ?_) (fun Φ j m hg hmem hj hit next => ?_)
  ·simp only [Qf,Ql,QG,Nat.lt_irrefl,decide_false,zz,Nat.reduceEqDiff]
   exact ⟨trivial,trivial,hb⟩
  simp only [Qf,Ql,Xk hj,hj,decide_true,QV Ze hg,Zx,V2,zz,Nat.reduceEqDiff,Nat.reduceAdd]
  refine Qu (fun hb => ?_) (fun hb => ?_)
  ·refine fin _ ?_
   rw [hov,hit hb]
   rfl
  ·rw [Qi _ (by omega) (by omega)]
   simp only [zz,Nat.reduceEqDiff]
   exact next hb
 obtain ⟨h1,rfl,hb1⟩ := hx
 rw [hb1,Bool.false_or] at hov
 simp only [h1]
 clear h1 x
 refine Qr (fun x τ' => x 1 = Qt c ∧ τ' = τ ∧ (c.routs.2.any fun r => decide (len r.ranges > 4000)) = false) (fun x τ' hx => ?_) ?_
 case refine_2 =>
  refine Z9 c.routs.2 (fun r => decide (len r.ranges > 4000)) (fun j => Qz [(4,.int .i64 j),(1,Qt c)]) _ rfl (fun hb Φ => ?_) (fun Φ j r hg hmem hj hit next => ?_)
  ·simp only [Qf,Ql,QG,Nat.lt_irrefl,decide_false,zz,Nat.reduceEqDiff]
   exact ⟨trivial,trivial,hb⟩
  simp only [Qf,Ql,Xk hj,hj,decide_true,QV X3 hg,Zx,Qy,zz,Nat.reduceEqDiff,Nat.reduceAdd]
  refine Qu (fun hb => ?_) (fun hb => ?_)
  ·refine fin _ ?_
   rw [hov,hit hb]
   rfl
  ·rw [Qi _ (by omega) (by omega)]
   simp only [zz,Nat.reduceEqDiff]
   exact next hb
 obtain ⟨h1,rfl,hb2⟩ := hx
 rw [hb2,Bool.false_or] at hov
 simp only [h1]
 clear h1 x
 refine Qr (fun x τ => τ = τ' ∧ (c.texts.2.any fun s => decide ((s.length : Int) > 65536)) = false) (fun x τ hx => ?_) ?_
 case refine_2 =>
  refine Z9 c.texts.2 (fun s => decide ((s.length : Int) > 65536)) (fun j => Qz [(5,.int .i64 j),(1,Qt c)]) _ rfl (fun hb Φ => ?_) (fun Φ j s hg hmem hj hit next => ?_)
  ·simp only [Qf,Ql,QG,Nat.lt_irrefl,decide_false,zz,Nat.reduceEqDiff]
   exact ⟨trivial,hb⟩
  simp only [Qf,Ql,Xk hj,hj,decide_true,QV encStr hg,encStr.part,zz,Nat.reduceEqDiff,Nat.reduceAdd]
  refine Qu (fun hb => ?_) (fun hb => ?_)
  ·refine fin _ ?_
   rw [hov,hit hb]
   rfl
  ·rw [Qi _ (by omega) (by omega)]
   simp only [zz,Nat.reduceEqDiff]
   exact next hb
 obtain ⟨rfl,hb3⟩ := hx
 refine fin _ ?_
 rw [hov,hb3]
 rfl
end Go.Proofs.YtgghfcchanilpaaGreatDoor
namespace Go.Abs
open Go.Lib (contains index occAt index_spec)
theorem contains_iff {s t : Str} : contains s t = true ↔ ∃ i,i ≤ s.length ∧ occAt s t i = true := by
 unfold contains
 rw [decide_eq_true_iff]
 rcases index_spec s t with ⟨h1,h2⟩ | ⟨i,h1,h2,h3,-⟩
 ·constructor
  ·intro h; omega
  ·rintro ⟨i,hi,ho⟩
   rw [h2 i hi] at ho
   cases ho
 ·exact ⟨fun _ => ⟨i,h2,h3⟩,fun _ => by omega⟩
def VV : List Str := [[112,114,105,110,116],[114,101,97,100],[112,114,105,110,116,102],[114,101,97,100,102],[112,117,116,98,105,110],[103,101,116,98,105,110]]
def ZS : Str := [32,112,114,105,110,116,32,114,101,97,100,32,112,114,105,110,116,102,32,114,101,97,100,102,32,112,117,116,98,105,110,32,103,101,116,98,105,110,32]
def Tv (w : Str) : Bool := !VV.any (fun x => w == x)
theorem Ay : ∀ k : Fin 40,ZS[k.val]? = some 32 → (ZS.drop (k.val + 1)).takeWhile (fun b => !(b == 32)) = [] ∨ (VV.any fun x => (ZS.drop (k.val + 1)).takeWhile (fun b => !(b == 32)) == x) = true := by
 decide +kernel
theorem BO : VV.all (fun w => !(w == []) && (!contains w [32] && contains ZS ([32] ++ w ++ [32]))) = true := by decide +kernel
theorem DJ {w : Str} {c : UInt8} (h : c ∈ w) : contains w [c] = true := by
 rw [contains_iff]
 obtain ⟨i,hi,rfl⟩ := List.getElem_of_mem h
 refine ⟨i,by omega,?_⟩
 unfold occAt
 rw [List.drop_eq_getElem_cons hi]
 simp [List.isPrefixOf]
theorem C0 {w r : Str} (h : ∀ c ∈ w,c ≠ 32) : (w ++ 32 :: r).takeWhile (fun b => !(b == 32)) = w := by
 induction w with
 | nil => rfl
 | cons c w ih =>
  have hc : (!(c == 32)) = true := by simpa using h c (by simp)
  rw [List.cons_append,List.takeWhile_cons,if_pos hc,ih fun d hd => h d (by simp [hd])]
theorem G4 (w : Str) : ((w == [] || contains w [32]) || !contains ZS ([32] ++ w ++ [32])) = Tv w := by
 unfold Tv
 by_cases ht : (VV.any fun x => w == x) = true
 ·rw [ht]
  obtain ⟨x,hx,he⟩ := List.any_eq_true.1 ht
  obtain rfl : w = x := eq_of_beq he
  have := List.all_eq_true.1 BO w hx
  simp only [Bool.and_eq_true,Bool.not_eq_true'] at this
  obtain ⟨h1,h2,h3⟩ := this
  rw [h1,h2,h3]
  rfl
 ·rw [Bool.not_eq_true] at ht
  rw [ht]
  by_cases h0 : (w == []) = true
  ·rw [h0]; rfl
  by_cases h1 : contains w [32] = true
  ·rw [h1]; simp
  rw [Bool.not_eq_true] at h0 h1
  rw [h0,h1]
  cases h2 : contains ZS ([32] ++ w ++ [32]) with
  | false => rfl
  | true =>
   exfalso
   obtain ⟨i,hi,ho⟩ := contains_iff.1 h2
   have hns : ∀ c ∈ w,c ≠ 32 := fun c hc e => by
    subst e
    rw [DJ hc] at h1
    cases h1
   unfold occAt at ho
   rw [List.isPrefixOf_iff_prefix] at ho
   obtain ⟨r,hr⟩ := ho
   have hi39 : i < 40 := by
    have : ZS.length = 39 := rfl
    omega
   have hd : ZS.drop i = 32 :: (w ++ 32 :: r) := by rw [← hr]; simp
   have hg : ZS[i]? = some 32 := by
    have := congrArg (fun l => l[0]?) hd
    simpa using this
   have hd1 : ZS.drop (i + 1) = w ++ 32 :: r := by
    rw [← List.drop_drop,hd]
    rfl
   have := Ay ⟨i,hi39⟩ hg
   simp only [hd1,C0 hns] at this
   rcases this with e | e
   ·rw [e] at h0
    cases h0
   ·rw [e] at ht
    cases ht
def TX (c : Qp) : Bool := c.trans.2.any fun t => Tv t.word || !inS t.map (len c.maps)
def lAt (c : Qp) (k : Nat) : Int := (c.lines.2.getD k (0,0)).1
def PT (c : Qp) (k : Nat) : Int := match k with | 0 => -1 | k + 1 => lAt c k
def Ta (c : Qp) (k : Nat) : Int := if !inS (lAt c k) (len c.insts) || decide (lAt c k ≤ PT c k) then 10 else 0
def ZH (c : Qp) : Int := if TX c then 11 else ZK (Ta c) c.lines.2.length
theorem Hx {c : Qp} {k : Nat} (h : ∀ j,j < k → Ta c j = 0) : -1 ≤ PT c k := by
 cases k with
 | zero => simp [PT]
 | succ k =>
  have := h k (by omega)
  simp only [Ta] at this
  simp only [PT]
  cases hb : inS (lAt c k) (len c.insts) with
  | false => rw [hb] at this; simp at this
  | true =>
   simp only [inS,Bool.and_eq_true,decide_eq_true_eq] at hb
   omega
theorem FJ {c : Qp} {k : Nat} (h : ∀ j,j < k → Ta c j = 0) : (decide (lAt c k ≤ PT c k) || decide (lAt c k ≥ len c.insts)) = (!inS (lAt c k) (len c.insts) || decide (lAt c k ≤ PT c k)) := by
 have := Hx h
 rw [Bool.eq_iff_iff]
 simp only [inS,Bool.or_eq_true,Bool.not_eq_true',Bool.and_eq_false_iff,decide_eq_true_eq,decide_eq_false_iff_not]
 omega
end Go.Abs
namespace Go.Proofs.YtgghfcchanilpaaGreatDoor
open Go Go.Abs
theorem c117 {s t : Str} (h : s.length < 4294967281) (σ : St) : Ret W 117 [.str s,.str t] σ (.bool (Go.Lib.contains s t)) := QE fun R hR => by
 show Qg False (ZF [.str s,.str t] σ) (fun r => R (.ret r.1) r.2)
 have : ZF [.str s,.str t] σ = some (.bool (Go.Lib.contains s t),σ) := by simp only [ZF,h,if_true]
 rw [this]
 exact hR
theorem HZ (t : YW) : Qv 3 (.agg [(.str []),(.bool false),(.int .i64 0)]) 0 (QY t) = some (QY t) := rfl
theorem Sj (t : YW) : Q6 false 1 (QY t) 0 = some (.str t.word) ∧ Q6 false 1 (QY t) 2 = some (.int .i64 t.map) ∧ Q6 true 3 (QY t) 0 = some (QY t) := ⟨rfl,rfl,rfl⟩
theorem c62 {c : Qp} (hc : VX c) (a b : Int) (σ : St) : Ret W 62 [X2 c a b] σ (.int .i64 (ZH c)) := by
 refine QE fun R hR => ?_
 rw [C5]
 delta um bF pF gF kF nI
 have ht := hc.trans
 have hl := hc.lines
 have fin : ∀ n : Int,ZH c = n → XG σ (.int .i64 n) σ fun v σ => R (.ret v) σ := fun n hb => by
  rw [hb] at hR
  exact Q2 hR
 clear hR
 simp only [QU,Ql,zz,Nat.reduceEqDiff]
 refine Z9 c.trans.2 (fun t => Tv t.word || !inS t.map (len c.maps)) (fun j => Qz [(10,QB QY c.trans),(11,.int .i64 (len c.trans)),(12,.int .i64 j),(1,X2 c a b)]) _ rfl (fun hb Φ => ?_) (fun Φ j t hg hmem hj hit next => ?_)
 case refine_2 =>
  have hw := hc.word t hmem
  simp only [Xk hj,hj,decide_true,QV T4 hg,Sj,HZ,QU,Ql,zz,Nat.reduceEqDiff]
  refine orG (Go.Lib.contains t.word [32]) (fun _ J hJ => ?_) ?_
  ·refine (c117 (by omega) _).Q0 ?_
   exact hJ _ rfl
  refine orG (!Go.Lib.contains ZS ([32] ++ t.word ++ [32])) (fun _ J hJ => ?_) ?_
  ·rw [Xr _ (by simp; omega)]
   simp only [zz,Nat.reduceEqDiff]
   rw [Xr _ (by simp; omega)]
   simp only [zz,Nat.reduceEqDiff]
   refine (c117 (s := ZS) (by decide) _).Q0 ?_
   simp only [zz,Nat.reduceEqDiff]
   exact hJ _ rfl
  rw [G4]
  refine orG (!inS t.map (len c.maps)) (fun _ J hJ => ?_) ?_
  ·refine (c42 _ _ _).Q0 ?_
   simp only [zz,Nat.reduceEqDiff]
   exact hJ _ rfl
  refine Qu (fun hb => ?_) (fun hb => ?_)
  ·refine fin _ ?_
   have : TX c = true := hit hb
   simp only [ZH,this,if_true]
  ·rw [Qi _ (by omega) (by omega)]
   simp only [zz,Nat.reduceEqDiff]
   exact next hb
 have htb : TX c = false := hb
 clear hb
 simp only [QG,Nat.lt_irrefl,decide_false,QU,Ql,zz,Nat.reduceEqDiff]
 refine YT c.lines.2.length (Ta c) (fun j => Qz [(5,.int .i64 (PT c j)),(45,QB Qw c.lines),(46,.int .i64 (len c.lines)),(47,.int .i64 j),(1,X2 c a b)]) _ rfl (fun hall Φ => ?_) (fun Φ j hj hpre hhit next => ?_)
 ·simp only [QG,Nat.lt_irrefl,decide_false,zz,Nat.reduceEqDiff]
  refine fin _ ?_
  simp only [ZH,htb,Bool.false_eq_true,if_false,XZ hall]
 have hg : c.lines.2[j]? = some (c.lines.2.getD j (0,0)) := by simp [List.getD_eq_getElem?_getD,hj]
 have p1 : Q6 false 1 (Qw (c.lines.2.getD j (0,0))) 0 = some (.int .i64 (lAt c j)) := rfl
 simp only [Xk hj,hj,decide_true,QV ZB hg,ZB.part,H9,T2,p1,QU,Ql,zz,Nat.reduceEqDiff]
 have hq := FJ hpre
 refine orG (decide (lAt c j ≥ len c.insts)) (fun _ J hJ => ?_) ?_
 ·exact hJ _ rfl
 rw [hq]
 refine Qu (fun hb => ?_) (fun hb => ?_)
 ·have he : Ta c j = 10 := by simp only [Ta,hb,if_true]
  refine fin _ ?_
  simp only [ZH,htb,Bool.false_eq_true,if_false,hhit (by rw [he]; omega),he]
 ·rw [Qi _ (by omega) (by omega)]
  simp only [zz,Nat.reduceEqDiff]
  refine next ?_
  simp only [Ta,hb,Bool.false_eq_true,if_false]
theorem c126 (σ : St) : Ret W 126 [] σ (.list .full (VV.map PV.str)) := by
 refine QE fun R hR => ?_
 rw [GO]
 delta Bn
 exact Q2 hR
theorem FD {c : Qp} {k : Nat} : (!inS (lAt c k) (len c.insts) || (decide ((k : Int) > 0) && decide (lAt c k ≤ lAt c (k - 1)))) = (!inS (lAt c k) (len c.insts) || decide (lAt c k ≤ PT c k)) := by
 cases k with
 | zero =>
  rw [show PT c 0 = -1 from rfl,Bool.eq_iff_iff]
  simp only [inS,Bool.or_eq_true,Bool.not_eq_true',Bool.and_eq_false_iff,Bool.and_eq_true,decide_eq_true_eq,decide_eq_false_iff_not]
  constructor
  ·rintro (h | h)
   ·exact .inl h
   ·omega
  ·rintro (h | h)
   ·exact .inl h
   ·exact .inl (.inl (by omega))
 | succ k =>
  have : decide (((k + 1 : Nat) : Int) > 0) = true := decide_eq_true (by omega)
  rw [this,Bool.true_and]
  rfl
theorem c67 {c : Qp} (hc : VX c) (σ : St) : Ret W 67 [Qt c] σ (.int .i64 (ZH c)) := by
 refine QE fun R hR => ?_
 rw [C9]
 delta Am bF pF gF kF nI
 have ht := hc.trans
 have hl := hc.lines
 have fin : ∀ n : Int,ZH c = n → XG σ (.int .i64 n) σ fun v σ => R (.ret v) σ := fun n hb => by
  rw [hb] at hR
  exact Q2 hR
 clear hR
 simp only [Qf,zz,Nat.reduceEqDiff]
 refine Qr (fun x τ => x 1 = Qt c ∧ τ = σ ∧ TX c = false) (fun x τ hx => ?_) ?_
 case refine_2 =>
  refine Z9 c.trans.2 (fun t => Tv t.word || !inS t.map (len c.maps)) (fun j => Qz [(3,.int .i64 j),(1,Qt c)]) _ rfl (fun hb Φ => ?_) (fun Φ j t hg hmem hj hit next => ?_)
  ·simp only [Qf,Ql,QG,Nat.lt_irrefl,decide_false,zz,Nat.reduceEqDiff]
   exact ⟨trivial,trivial,hb⟩
  simp only [Qf,Ql,Xk hj,hj,decide_true,zz,Nat.reduceEqDiff]
  refine Qr (fun x τ => x 1 = Qt c ∧ x 3 = .int .i64 j ∧ τ = σ ∧ (Tv t.word || !inS t.map (len c.maps)) = false) (fun x τ hx => ?_) ?_
  ·obtain ⟨h1,h3,rfl,hb⟩ := hx
   simp only [h1,h3]
   rw [Qi _ (by omega) (by omega)]
   simp only [zz,Nat.reduceEqDiff]
   exact next hb
  refine Qr (fun x τ => x 1 = Qt c ∧ x 3 = .int .i64 j ∧ x 4 = .bool (VV.any fun w => t.word == w) ∧ τ = σ) (fun x τ hx => ?_) ?_
  ·obtain ⟨h1,h3,h4,rfl⟩ := hx
   have hwb : (!VV.any fun w => t.word == w) = Tv t.word := rfl
   simp only [h1,h3,h4,hwb,zz,Nat.reduceEqDiff]
   refine orG (!inS t.map (len c.maps)) (fun _ J hJ => ?_) ?_
   ·simp only [Qf,QV T4 hg,Zx,Sj,Ql,zz,Nat.reduceEqDiff,Nat.reduceAdd]
    refine (c75 _ _ _).Q0 ?_
    simp only [zz,Nat.reduceEqDiff]
    exact hJ _ rfl
   refine Qu (fun hb => ?_) (fun hb => ?_)
   ·refine fin _ ?_
    have : TX c = true := hit hb
    simp only [ZH,this,if_true]
   ·exact ⟨trivial,trivial,rfl,hb⟩
  have h6 : VV.length = 6 := rfl
  have h126 := fun σ => c126 σ
  generalize VV = l at h6 h126
  refine QT l.length (fun k x τ => x = Qz [(3,.int .i64 j),(4,.bool ((l.take k).any fun w => t.word == w)),(5,.int .i64 k),(1,Qt c)] ∧ τ = σ) ?_ ⟨rfl,rfl⟩
  rintro Ψ k x τ hk ⟨rfl,rfl⟩ next2
  refine (h126 _).Q0 ?_
  by_cases hlt : k < l.length
  ·have hw : l[k]? = some l[k] := by simp [hlt]
   generalize l[k] = w at hw
   simp only [List.length_map,hlt,Vt hlt,decide_true,zz,Nat.reduceEqDiff]
   refine orG (t.word == w) (fun _ J hJ => ?_) ?_
   ·simp only [Qf,QV T4 hg,Zx,Sj,zz,Nat.reduceEqDiff,Nat.reduceAdd]
    refine (h126 _).IN ?_
    simp only [encStr.index hw,encStr.part,zz,Nat.reduceEqDiff]
    exact hJ _ rfl
   rw [Qi _ (by omega) (by omega)]
   simp only [zz,Nat.reduceEqDiff]
   refine next2 _ _ hlt ⟨?_,rfl⟩
   rw [List.take_add_one,hw,List.any_append]
   simp
  ·obtain rfl : k = l.length := by omega
   simp only [List.length_map,Nat.lt_irrefl,Z0,decide_false,List.take_length,zz,Nat.reduceEqDiff]
   exact ⟨trivial,trivial,trivial,trivial⟩
 obtain ⟨h1,rfl,htb⟩ := hx
 simp only [h1]
 clear h1 x
 refine Qr (fun x τ' => τ' = τ ∧ ZK (Ta c) c.lines.2.length = 0) (fun x τ' hx => ?_) ?_
 ·obtain ⟨rfl,hz⟩ := hx
  refine fin _ ?_
  simp only [ZH,htb,Bool.false_eq_true,if_false,hz]
 refine YT c.lines.2.length (Ta c) (fun j => Qz [(6,.int .i64 j),(1,Qt c)]) _ rfl (fun hall Φ => ?_) (fun Φ j hj hpre hhit next => ?_)
 ·simp only [Qf,Ql,QG,Nat.lt_irrefl,decide_false,zz,Nat.reduceEqDiff]
  exact ⟨trivial,XZ hall⟩
 have hg : c.lines.2[j]? = some (c.lines.2.getD j (0,0)) := by simp [List.getD_eq_getElem?_getD,hj]
 have p1 : Q6 false 1 (Qw (c.lines.2.getD j (0,0))) 0 = some (.int .i64 (lAt c j)) := rfl
 simp only [Qf,Ql,Xk hj,hj,decide_true,QV ZB hg,Zx,p1,zz,Nat.reduceEqDiff,Nat.reduceAdd]
 refine (c75 _ _ _).Q0 ?_
 simp only [zz,Nat.reduceEqDiff]
 refine Ve (decide ((j : Int) > 0)) (decide (lAt c j ≤ lAt c (j - 1))) (fun _ J hJ => ?_) (fun _ hA y J hJ => ?_) ?_
 ·exact hJ _ rfl
 ·simp only [decide_eq_true_eq] at hA
  have hg1 : c.lines.2[j - 1]? = some (c.lines.2.getD (j - 1) (0,0)) := by
   have : j - 1 < c.lines.2.length := by omega
   simp [List.getD_eq_getElem?_getD,this]
  have p2 : Q6 false 1 (Qw (c.lines.2.getD (j - 1) (0,0))) 0 = some (.int .i64 (lAt c (j - 1))) := rfl
  have hix1 : Q5 2 (QB Qw c.lines) (.int .i64 ((j : Int) - 1)) = some (.eptr (Qw (c.lines.2.getD (j - 1) (0,0))) 0) := by
   rw [show (j : Int) - 1 = ((j - 1 : Nat) : Int) by omega]
   exact QV ZB hg1
  rw [Yh _ (by omega) (by omega)]
  simp only [Qf,QV ZB hg,hix1,Zx,p1,p2,zz,Nat.reduceEqDiff,Nat.reduceAdd]
  exact hJ _ rfl
 rw [FD]
 refine Qu (fun hb => ?_) (fun hb => ?_)
 ·have he : Ta c j = 10 := by simp only [Ta,hb,if_true]
  refine fin _ ?_
  simp only [ZH,htb,Bool.false_eq_true,if_false,hhit (by rw [he]; omega),he]
 ·rw [Qi _ (by omega) (by omega)]
  simp only [zz,Nat.reduceEqDiff]
  refine next ?_
  simp only [Ta,hb,Bool.false_eq_true,if_false]
end Go.Proofs.YtgghfcchanilpaaGreatDoor
